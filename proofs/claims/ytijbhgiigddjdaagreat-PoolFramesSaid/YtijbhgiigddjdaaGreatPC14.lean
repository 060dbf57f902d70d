/-
  Texts joined: Se Sf. Conditions: each theorem's own.
-/
import Derived.Test.YtijbhgiigddjdaaGreatPC13
set_option linter.unusedVariables false
set_option linter.unusedSimpArgs false
set_option maxRecDepth 10000
set_option maxHeartbeats 16000000
section
namespace Go.Proofs.YtijbhgiigddjdaaGreat.Wl
open Go.K Ca

theorem trMono {P : Program} {f : FuncId} {args : List Value} {h : Base} {Pre : List Asrt} {Post Post' : Value → Base → List Asrt → Prop} (ht : Tr P f args h Pre Post) (hm : ∀ v h' H', h.le h' → Post v h' H' → Post' v h' H') : Tr P f args h Pre Post' := fun F w ok => Calls.mono (ht F w ok) fun e w' ⟨v, he, h', H', hle, hP, ok'⟩ => ⟨v, he, h', H', hle, hm v h' H' hle hP, ok'⟩
def roomMax : Nat := 1000000000
theorem write_ok {D : Dk} (hk : DkOk D) (hr : D.cache.length + 1 ≤ roomMax) (at_ : Int) (b : Sec) : DkOk (writeQ D at_ b).2 ∧ (writeQ D at_ b).2.cache.length ≤ D.cache.length + 1 ∧ (writeQ D at_ b).2.kept.length = D.kept.length := by
 have hg := hk.goes
 obtain ⟨e1, e2⟩ := goes_kept D
 unfold writeQ
 split
 ·exact ⟨hk, Nat.le_succ _, rfl⟩
 ·rename_i ha
  split
  ·exact ⟨hk, Nat.le_succ _, rfl⟩
  ·rename_i hb
   split
   ·refine ⟨⟨hg.secs, fun l hl => ?_, hg.pos, hg.few, hg.trip, ?_⟩, ?_, ?_⟩
    ·dsimp only at hl ⊢
     rw [e1]
     rcases List.mem_append.1 hl with hl | hl
     ·exact hk.los l hl
     ·rw [List.mem_singleton.1 hl]
      exact ⟨by show at_.toNat < _; omega, by show b.length = 512; omega⟩
    ·dsimp only
     rw [List.length_append, List.length_singleton]
     unfold roomMax at hr
     exact hr
    ·dsimp only
     rw [List.length_append, List.length_singleton]
     exact Nat.le_refl _
    ·dsimp only; rw [e1]
   ·refine ⟨hg, by rw [e2]; exact Nat.le_succ _, by rw [e1]⟩
theorem sync_ok {D : Dk} (hk : DkOk D) : DkOk (syncQ D).2 ∧ (syncQ D).2.cache.length ≤ D.cache.length ∧ (syncQ D).2.kept.length = D.kept.length := by
 have hg := hk.goes
 obtain ⟨e1, e2⟩ := goes_kept D
 unfold syncQ
 split
 ·refine ⟨⟨setL_512 hk.secs (fun l hl => (hk.los l hl).2), fun l hl => (by cases hl), by dsimp only; rw [setL_len]; exact hk.pos, by dsimp only; rw [setL_len]; exact hk.few, hg.trip, Nat.zero_le _⟩, Nat.zero_le _, by dsimp only; rw [setL_len]⟩
 ·exact ⟨hg, by rw [e2]; exact Nat.le_refl _, by rw [e1]⟩
structure Stp where
 q : Dk → Int × Dk
 k : Nat
structure Stp.good (s : Stp) : Prop where
 ok : ∀ D, DkOk D → D.cache.length + s.k ≤ roomMax → DkOk (s.q D).2 ∧ (s.q D).2.cache.length ≤ D.cache.length + s.k ∧ (s.q D).2.kept.length = D.kept.length
def StepV (h : Base) (d : Nat) (fv : Value) (s : Stp) : Prop := s.good ∧ ∃ f fst caps, fv = .func (.func f) (fst : List Value).toArray (caps : List Value).toArray ∧ Callable Tryz.prog f ∧
 ∀ h', h.le h' → ∀ M D, DkOk D → D.cache.length + s.k ≤ roomMax → Tr Tryz.prog f (fst ++ [] ++ caps) h' (dkA d M D) (fun v h'' H' => v = .int .i64 (s.q D).1 ∧ ∃ M', H' = dkA d M' (s.q D).2)
theorem StepV.le {h h' : Base} {d : Nat} {fv : Value} {s : Stp} (hs : StepV h d fv s) (hle : h.le h') : StepV h' d fv s := by
 obtain ⟨h1, f, fst, caps, e, hc, ht⟩ := hs
 exact ⟨h1, f, fst, caps, e, hc, fun h2 l2 => ht h2 (hle.trans l2)⟩
def stepsQ : List Stp → Dk → Int × Dk
 | [], D => (0, D)
 | s :: r, D => if (s.q D).1 ≠ 0 then s.q D else stepsQ r (s.q D).2
def sumK : List Stp → Nat
 | [] => 0
 | s :: r => s.k + sumK r
theorem steps_ok {l : List Stp} (hg : ∀ s ∈ l, s.good) : ∀ {D : Dk}, DkOk D → D.cache.length + sumK l ≤ roomMax → DkOk (stepsQ l D).2 ∧ (stepsQ l D).2.cache.length ≤ D.cache.length + sumK l ∧ (stepsQ l D).2.kept.length = D.kept.length := by
 induction l with
 | nil => exact fun h _ => ⟨h, Nat.le_refl _, rfl⟩
 | cons s r ih =>
  intro D hD hr
  rw [sumK] at hr
  obtain ⟨a, b, c⟩ := (hg s (List.mem_cons_self ..)).ok D hD (by omega)
  rw [stepsQ, sumK]
  split
  ·exact ⟨a, by omega, c⟩
  ·obtain ⟨x, y, z⟩ := ih (fun s hs => hg s (List.mem_cons_of_mem _ hs)) a (by omega)
   exact ⟨x, by omega, z.trans c⟩
structure SpS where
 j : Nat
 hb : Base
 M : DM
 D : Dk
theorem Steps (h : Base) (d : Nat) (M : DM) (D : Dk) (v : Value) (vs : List Value) (l : List Stp) (hv : SL h 1 v (vs.map fun f => [f])) (hl : vs.length = l.length) (hll : l.length ≤ 1000) (hs : ∀ (j : Nat) f s, vs[j]? = some f → l[j]? = some s → StepV h d f s) (hk : DkOk D) (hr : D.cache.length + sumK l ≤ roomMax) :
  Tr Tryz.prog 53 [v] h (dkA d M D) (fun u h' H' => u = .int .i64 (stepsQ l D).1 ∧ ∃ M', H' = dkA d M' (stepsQ l D).2) := by
 obtain ⟨ao, ca, rfl⟩ := hv.len
 rw [List.length_map, hl] at hv ⊢
 refine K.en Tryz.func53 fun F => ?_
 (repeat' first | refine X.rq ?_ | refine X.rc ?_ ?_ <;> intro hc <;> try omega)
 refine K.c_loop (σ := SpS) (fun q => [(6, .slice ao l.length ca), (7, .int .i64 l.length), (8, .int .i64 q.j)]) (fun q => q.hb) (fun q => dkA d q.M q.D ++ F)
  (fun q => q.j ≤ l.length ∧ h.le q.hb ∧ DkOk q.D ∧ q.D.cache.length + sumK (l.drop q.j) ≤ roomMax ∧ stepsQ l D = stepsQ (l.drop q.j) q.D) (fun q => l.length - q.j) ⟨0, h, M, D⟩ ⟨Nat.zero_le _, K.Base.le.refl _, hk, hr, rfl⟩ (by repeat (first | exact K.Sub.nil _ | refine K.Sub.cons rfl ?_)) rfl rfl ?_
 rintro ⟨j, hb, M1, D1⟩ ⟨hj, hle, hk1, hr1, hq⟩ KL hKL
 dsimp only at hj hle hk1 hr1 hq ⊢
 by_cases hjl : j < l.length
 ·obtain ⟨s, hsj⟩ : ∃ s, l[j]? = some s := ⟨_, List.getElem?_eq_getElem hjl⟩
  obtain ⟨f, hfj⟩ : ∃ s, vs[j]? = some s := ⟨_, List.getElem?_eq_getElem (by omega)⟩
  have hfe : (vs.map fun f => [f])[(j : Int).toNat]? = some [f] := by rw [Int.toNat_natCast, List.getElem?_map, hfj]; rfl
  have hdr : l.drop j = s :: l.drop (j + 1) := by
   rw [List.drop_eq_getElem_cons hjl, (List.getElem?_eq_some_iff.1 hsj).2]
  rw [hdr] at hr1 hq
  rw [sumK] at hr1
  rw [stepsQ] at hq
  obtain ⟨hg, fi, fst, caps, rfl, hcal, ht⟩ := hs j f s hfj hsj
  obtain ⟨a1, a2, a3⟩ := hg.ok D1 hk1 (by omega)
  have ht := ht hb hle M1 D1 hk1 (by omega)
  (repeat' first | refine X.rq ?_ | refine X.rc ?_ ?_ <;> intro hc <;> try omega)
  refine K.s_pureE (K.p_indexL (hv.le hle) (Fx.und rfl) (Fx.sz rfl) rfl rfl (by omega) hfe) rfl ?_
  rintro v2 ⟨b, o, rfl, hcel⟩
  refine K.s_pure (K.p_load (Fx.agg rfl) rfl (Cels.up hcel).1) rfl ?_
  (repeat' first | refine X.rq ?_ | refine X.rc ?_ ?_ <;> intro hc <;> try omega)
  refine K.l_callB hcal rfl rfl ht (K.pp [0, 0, 0] rfl) rfl ?_
  rintro u h2 H' le2 ⟨rfl, M2, rfl⟩
  by_cases he : (s.q D1).1 = 0
  ·rw [if_neg (by omega)] at hq
   rw [he]
   (repeat' first | refine X.rq ?_ | refine X.rc ?_ ?_ <;> intro hc <;> try omega)
   all_goals try (exfalso; omega)
   refine K.a_round hKL ⟨j + 1, h2, M2, (s.q D1).2⟩ ⟨by dsimp only; omega, hle.trans le2, a1, by dsimp only; omega, hq⟩ (by repeat (first | exact K.Sub.nil _ | refine K.Sub.cons rfl ?_)) rfl rfl (by dsimp only; omega)
  ·rw [if_pos he] at hq
   (repeat' first | refine X.rq ?_ | refine X.rc ?_ ?_ <;> intro hc <;> try omega)
   all_goals try (exfalso; omega)
   exact K.dn (vs := [.int .i64 (s.q D1).1]) rfl (hle.trans le2) (H' := dkA d M2 (s.q D1).2) rfl ⟨by rw [hq]; rfl, M2, by rw [hq]⟩
 ·obtain rfl : j = l.length := by omega
  rw [List.drop_of_length_le (Nat.le_refl _)] at hq
  rw [stepsQ] at hq
  (repeat' first | refine X.rq ?_ | refine X.rc ?_ ?_ <;> intro hc <;> try omega)
  exact K.dn (vs := [.int .i64 0]) rfl hle (H' := dkA d M1 D1) rfl ⟨by rw [hq]; rfl, M1, by rw [hq]⟩
/-! ### The steps -/
def syncS : Stp := ⟨syncQ, 0⟩
def writeS (m : Mas) : Stp := ⟨fun D => writeQ D 0 (masterB m), 1⟩
def wipeQ : Nat → Nat → Dk → Int × Dk
 | 0, _, D => (0, D)
 | n + 1, i, D => if (writeQ D (1 + i : Nat) zs).1 ≠ 0 then writeQ D (1 + i : Nat) zs else wipeQ n (i + 1) (writeQ D (1 + i : Nat) zs).2
def wipeS (n : Nat) : Stp := ⟨wipeQ n 0, n⟩
theorem zs_len : zs.length = 512 := List.length_replicate
theorem syncS_good : syncS.good := ⟨fun D h _ => sync_ok h⟩
theorem writeS_good (m : Mas) : (writeS m).good := ⟨fun D h hr => write_ok h hr _ _⟩
theorem wipe_ok : ∀ (n i : Nat) {D : Dk}, DkOk D → D.cache.length + n ≤ roomMax → DkOk (wipeQ n i D).2 ∧ (wipeQ n i D).2.cache.length ≤ D.cache.length + n ∧ (wipeQ n i D).2.kept.length = D.kept.length
 | 0, _, D, h, _ => ⟨h, Nat.le_refl _, rfl⟩
 | n + 1, i, D, h, hr => by
  obtain ⟨a, b, c⟩ := write_ok h (by omega) (1 + i : Nat) zs
  rw [wipeQ]
  split
  ·exact ⟨a, by omega, c⟩
  ·obtain ⟨x, y, z⟩ := wipe_ok n (i + 1) a (by omega)
   exact ⟨x, by omega, z.trans c⟩
theorem wipeS_good (n : Nat) : (wipeS n).good := ⟨fun D h hr => wipe_ok n 0 h hr⟩
theorem syncV (h : Base) (d : Nat) : StepV h d (.func (.func 52) #[dv d] #[]) syncS :=
 ⟨syncS_good, 52, [dv d], [], rfl, (Fx.cal rfl), fun h' _ M D hk _ => by
  exact trMono (Sync h' d M D hk) fun v h1 H1 _ ⟨e, c, hH⟩ => ⟨e, _, hH⟩⟩
end Go.Proofs.YtijbhgiigddjdaaGreat.Wl
end

section
namespace Go.Proofs.YtijbhgiigddjdaaGreat.Wl
open Go.K Ca

abbrev pv (b : Nat) : Value := .pointer (some ⟨b, 0, none⟩)
theorem WriteC (h : Base) (b3 b2 d : Nat) (m : Mas) (hm : MasOk m) (c3 : Cels h [] b3 0 [dv d]) (c2 : Cels h [] b2 0 (masV m)) (M : DM) (D : Dk) (hk : DkOk D) :
  Tr Tryz.prog 93 [pv b3, pv b2] h (dkA d M D) (fun u h' H' => u = .int .i64 (writeQ D 0 (masterB m)).1 ∧ ∃ M', H' = dkA d M' (writeQ D 0 (masterB m)).2) := by
 refine K.en Tryz.func93 fun F => ?_
 (repeat' first | refine X.rq ?_ | refine X.rc ?_ ?_ <;> intro hc <;> try omega)
 refine X.drawN ([]) [] (.st 0 (.st 1 (.on 2 (.on 3 (.pu 4 .nil))))) ?_
 refine K.d_st rfl (K.p_load (Fx.agg rfl) rfl (Cels.up c3).1) rfl ?_
 refine K.d_st rfl (K.p_loadM (Fx.agg rfl) rfl (Cels.up c2) (Fx.sz rfl) rfl) rfl ?_
 refine K.d_on rfl (fun KK hKK => ?_)
 refine K.l_call (Fx.cal rfl) rfl (MBytes h m hm) (K.pp [] rfl) rfl ?_
 rintro u h2 H' le2 ⟨rfl, ao, ca, rfl, hb⟩
 simp only [List.nil_append]
 refine K.l_nil ?_
 refine X.onE hKK ?_
 refine K.d_on rfl (fun KK hKK => ?_)
 refine K.l_call (Fx.cal rfl) rfl (Write h2 d M D 0 _ (masterB m) hk (by omega) (by omega) hb (by rw [master_len]; omega)) (K.pp [0, 0, 0] rfl) rfl ?_
 rintro u h3 H' le3 ⟨rfl, ac, cap, c, rfl⟩
 have le9 := le2.trans le3
 refine K.l_nil ?_
 refine X.onE hKK ?_
 refine X.u_sg ?_
 refine K.d_nil ?_
 (repeat' first | refine X.rq ?_ | refine X.rc ?_ ?_ <;> intro hc <;> try omega)
 exact K.dn (vs := [.int .i64 (writeQ D 0 (masterB m)).1]) rfl (le2.trans le3) (H' := dkA d { M with ac := ac, cap := cap, c2 := c } (writeQ D 0 (masterB m)).2) rfl ⟨rfl, _, rfl⟩
theorem WriteV (h : Base) (d : Nat) (m : Mas) (hm : MasOk m) : Tr Tryz.prog 55 [.agg (masV m).toArray, dv d] h [] (fun v h' H' => H' = [] ∧ StepV h' d v (writeS m) ∧ ∃ f fst caps, v = .func f fst caps) := by
 refine K.en Tryz.func55 fun F => ?_
 (repeat' first | refine X.rq ?_ | refine X.rc ?_ ?_ <;> intro hc <;> try omega)
 refine K.l_box rfl rfl rfl (fun B2 => ?_)
 refine K.l_box rfl rfl rfl (fun B3 => ?_)
 refine K.WL.freezeBlk (fun h1 le1 c3 => ?_)
 refine K.WL.freezeBlk (fun h2 le2 c2 => ?_)
 (repeat' first | refine X.rq ?_ | refine X.rc ?_ ?_ <;> intro hc <;> try omega)
 refine K.s_pure (K.p_makeFunc rfl) rfl ?_
 (repeat' first | refine X.rq ?_ | refine X.rc ?_ ?_ <;> intro hc <;> try omega)
 exact K.dn (vs := [.func (.func 93) #[] [pv B3, pv B2].toArray]) rfl (le1.trans le2) (H' := []) rfl ⟨rfl, ⟨writeS_good m, _, [], [pv B3, pv B2], rfl, (Fx.cal rfl), fun h' le M D hk _ => WriteC h' B3 B2 d m hm (Cels.le (le2.trans le) c3) (Cels.le le c2) M D hk⟩, _, _, _, rfl⟩
theorem made_nul : (madeCells (Value.int .u8 0).cells (512 * 1)).toList.take (512 * 1) = zs.map u8 := by
 have := made_rows [Value.int .u8 0] 512 512 (Nat.le_refl _) (by decide)
 have e : (List.replicate 512 [Value.int .u8 0]).flatten = zs.map u8 := by
  unfold zs
  rw [List.map_replicate]
  generalize 512 = k
  induction k with
  | zero => rfl
  | succ k ih => rw [List.replicate_succ, List.flatten_cons, ih, List.replicate_succ]; rfl
 rw [← e, ← this]
 rfl
theorem WipeC (h : Base) (b3 b2 d n : Nat) (hn : n ≤ 8192) (c3 : Cels h [] b3 0 [.int .i64 n]) (c2 : Cels h [] b2 0 [dv d]) (M : DM) (D : Dk) (hk : DkOk D) (hr : D.cache.length + n ≤ roomMax) :
  Tr Tryz.prog 92 [pv b3, pv b2] h (dkA d M D) (fun u h' H' => u = .int .i64 (wipeQ n 0 D).1 ∧ ∃ M', H' = dkA d M' (wipeQ n 0 D).2) := by
 refine K.en Tryz.func92 fun F => ?_
 (repeat' first | refine X.rq ?_ | refine X.rc ?_ ?_ <;> intro hc <;> try omega)
 refine K.s_pure (K.p_load (Fx.agg rfl) rfl (Cels.up c3).1) rfl ?_
 (repeat' first | refine X.rq ?_ | refine X.rc ?_ ?_ <;> intro hc <;> try omega)
 refine K.c_loop (σ := SpS) (fun q => [(1, pv b2), (5, .int .i64 n), (6, .int .i64 q.j)]) (fun q => q.hb) (fun q => dkA d q.M q.D ++ F)
  (fun q => q.j ≤ n ∧ h.le q.hb ∧ DkOk q.D ∧ q.D.cache.length + (n - q.j) ≤ roomMax ∧ wipeQ n 0 D = wipeQ (n - q.j) q.j q.D) (fun q => n - q.j) ⟨0, h, M, D⟩ ⟨Nat.zero_le _, K.Base.le.refl _, hk, hr, rfl⟩ (by repeat (first | exact K.Sub.nil _ | refine K.Sub.cons rfl ?_)) rfl rfl ?_
 rintro ⟨j, hb, M1, D1⟩ ⟨hj, hle, hk1, hr1, hq⟩ KL hKL
 dsimp only at hj hle hk1 hr1 hq ⊢
 by_cases hjl : j < n
 ·obtain ⟨r, hre⟩ : ∃ r, n - j = r + 1 := ⟨n - j - 1, by omega⟩
  rw [hre] at hr1 hq
  rw [wipeQ] at hq
  obtain ⟨a1, a2, a3⟩ := write_ok hk1 (by omega) (1 + j : Nat) zs
  (repeat' first | refine X.rq ?_ | refine X.rc ?_ ?_ <;> intro hc <;> try omega)
  refine X.drawN ([]) [] (.pu 1 (.pu 2 (.st 0 (.on 3 (.on 4 (.pu 5 .nil)))))) ?_
  refine X.u_mv ?_
  refine X.u_badd ?_
  refine K.d_st rfl (K.p_load (Fx.agg rfl) rfl (Cels.up (Cels.le hle c2)).1) rfl ?_
  refine K.d_on rfl (fun KK hKK => ?_)
  refine K.l_makeSlice (m := 512) (c := 512) (Fx.und rfl) (Fx.sz rfl) (Fx.zr rfl) rfl (Fx.byt rfl) rfl rfl (by omega) (by omega) (by unfold maxLen; omega) rfl (fun B7 => ?_)
  rw [made_nul]
  refine K.WL.freezeBufN (l := zs) zs_len.symm (fun h2 le2 hb2 => ?_)
  refine K.l_nil ?_
  refine X.onE hKK ?_
  refine K.d_on rfl (fun KK hKK => ?_)
  rw [show (1 : Int) + (j : Int) = ((1 + j : Nat) : Int) by omega]
  refine K.l_call (Fx.cal rfl) rfl (Write h2 d M1 D1 ((1 + j : Nat) : Int) _ zs hk1 (by omega) (by omega) hb2 (by rw [zs_len]; omega)) (K.pp [0, 0, 0] rfl) rfl ?_
  rintro u h3 H' le3 ⟨rfl, ac, cap, c, rfl⟩
  have le9 := le2.trans le3
  refine K.l_nil ?_
  refine X.onE hKK ?_
  refine X.u_sg ?_
  refine K.d_nil ?_
  have hle3 := hle.trans (le2.trans le3)
  by_cases he : (writeQ D1 ((1 + j : Nat) : Int) zs).1 = 0
  ·rw [if_neg (by omega)] at hq
   rw [he]
   (repeat' first | refine X.rq ?_ | refine X.rc ?_ ?_ <;> intro hc <;> try omega)
   all_goals try (exfalso; omega)
   refine K.a_round hKL ⟨j + 1, h3, { M1 with ac := ac, cap := cap, c2 := c }, (writeQ D1 ((1 + j : Nat) : Int) zs).2⟩ ⟨by dsimp only; omega, hle3, a1, by dsimp only; omega, by dsimp only; rw [hq, show n - (j + 1) = r by omega]⟩ (by repeat (first | exact K.Sub.nil _ | refine K.Sub.cons rfl ?_)) rfl rfl (by dsimp only; omega)
  ·rw [if_pos he] at hq
   (repeat' first | refine X.rq ?_ | refine X.rc ?_ ?_ <;> intro hc <;> try omega)
   all_goals try (exfalso; omega)
   exact K.dn (vs := [.int .i64 _]) rfl hle3 (H' := dkA d _ _) rfl ⟨by rw [hq]; rfl, _, by rw [hq]⟩
 ·obtain rfl : j = n := by omega
  rw [Nat.sub_self] at hq
  rw [wipeQ] at hq
  (repeat' first | refine X.rq ?_ | refine X.rc ?_ ?_ <;> intro hc <;> try omega)
  exact K.dn (vs := [.int .i64 0]) rfl hle (H' := dkA d M1 D1) rfl ⟨by rw [hq]; rfl, M1, by rw [hq]⟩
theorem WipeV (h : Base) (d n : Nat) (hn : n ≤ 8192) : Tr Tryz.prog 54 [dv d, .int .i64 n] h [] (fun v h' H' => H' = [] ∧ StepV h' d v (wipeS n) ∧ ∃ f fst caps, v = .func f fst caps) := by
 refine K.en Tryz.func54 fun F => ?_
 (repeat' first | refine X.rq ?_ | refine X.rc ?_ ?_ <;> intro hc <;> try omega)
 refine K.l_box rfl rfl rfl (fun B2 => ?_)
 refine K.l_box rfl rfl rfl (fun B3 => ?_)
 refine K.WL.freezeBlk (fun h1 le1 c3 => ?_)
 refine K.WL.freezeBlk (fun h2 le2 c2 => ?_)
 (repeat' first | refine X.rq ?_ | refine X.rc ?_ ?_ <;> intro hc <;> try omega)
 refine K.s_pure (K.p_makeFunc rfl) rfl ?_
 (repeat' first | refine X.rq ?_ | refine X.rc ?_ ?_ <;> intro hc <;> try omega)
 exact K.dn (vs := [.func (.func 92) #[] [pv B3, pv B2].toArray]) rfl (le1.trans le2) (H' := []) rfl ⟨rfl, ⟨wipeS_good n, _, [], [pv B3, pv B2], rfl, (Fx.cal rfl), fun h' le M D hk hr => WipeC h' B3 B2 d n hn (Cels.le (le2.trans le) c3) (Cels.le le c2) M D hk hr⟩, _, _, _, rfl⟩
def master0 (n : Nat) : Mas := ⟨n, 1, 0, 0, false⟩
def formatQ (n : Int) (D : Dk) : Int × Dk := if n < 16 ∨ (D.kept.length : Int) ≤ n then (1, D) else stepsQ [wipeS n.toNat, writeS (master0 n.toNat), syncS] D
theorem Format (h : Base) (d : Nat) (M : DM) (D : Dk) (n : Int) (hk : DkOk D) (hr : D.cache.length + 10000 ≤ roomMax) :
  Tr Tryz.prog 20 [dv d, .int .i64 n] h (dkA d M D) (fun u h' H' => u = .int .i64 (formatQ n D).1 ∧ ∃ M', (n < 16 ∨ (D.kept.length : Int) ≤ n → M' = M) ∧ H' = dkA d M' (formatQ n D).2) := by
 have hse := Sectors h d M D
 have hf := hk.few
 refine K.en Tryz.func20 fun F => ?_
 by_cases hb : n < 16 ∨ (D.kept.length : Int) ≤ n
 ·have eq : formatQ n D = (1, D) := by unfold formatQ; rw [if_pos hb]
  rw [eq]
  by_cases h0 : n < 16
  ·(repeat' first | refine X.rq ?_ | refine X.rc ?_ ?_ <;> intro hc <;> try omega)
   all_goals try (exfalso; omega)
   exact K.dn (vs := [.int .i64 1]) rfl (K.Base.le.refl _) (H' := dkA d M D) rfl ⟨rfl, M, fun _ => rfl, rfl⟩
  ·(repeat' first | refine X.rq ?_ | refine X.rc ?_ ?_ <;> intro hc <;> try omega)
   all_goals try (exfalso; omega)
   refine K.l_callV (Fx.cal rfl) rfl hse (K.pp [0, 0, 0] rfl) rfl rfl ?_
   (repeat' first | refine X.rq ?_ | refine X.rc ?_ ?_ <;> intro hc <;> try omega)
   all_goals try (exfalso; omega)
   exact K.dn (vs := [.int .i64 1]) rfl (K.Base.le.refl _) (H' := dkA d M D) rfl ⟨rfl, M, fun _ => rfl, rfl⟩
 ·obtain ⟨k, rfl⟩ : ∃ k : Nat, n = (k : Int) := ⟨n.toNat, by omega⟩
  have hk8 : k ≤ 8192 := by omega
  have eq : formatQ (k : Int) D = stepsQ [wipeS k, writeS (master0 k), syncS] D := by unfold formatQ; rw [if_neg hb, Int.toNat_natCast]
  rw [eq]
  have hm : MasOk (master0 k) := ⟨hk8, by show (1 : Nat) < _; decide, by show (0 : Nat) < _; decide, by show (0 : Nat) < _; decide⟩
  (repeat' first | refine X.rq ?_ | refine X.rc ?_ ?_ <;> intro hc <;> try omega)
  all_goals try (exfalso; omega)
  refine K.l_callV (Fx.cal rfl) rfl hse (K.pp [0, 0, 0] rfl) rfl rfl ?_
  (repeat' first | refine X.rq ?_ | refine X.rc ?_ ?_ <;> intro hc <;> try omega)
  all_goals try (exfalso; omega)
  refine K.l_call (Fx.cal rfl) rfl (WipeV h d k hk8) (K.pp [] rfl) rfl ?_
  rintro u h1 H' le1 ⟨rfl, hs1, f1, g1, c1, rfl⟩
  simp only [List.nil_append]
  (repeat' first | refine X.rq ?_ | refine X.rc ?_ ?_ <;> intro hc <;> try omega)
  refine K.l_call (Fx.cal rfl) rfl (WriteV h1 d (master0 k) hm) (K.pp [] rfl) rfl ?_
  rintro u h2 H' le2 ⟨rfl, hs2, f2, g2, c2, rfl⟩
  simp only [List.nil_append]
  (repeat' first | refine X.rq ?_ | refine X.rc ?_ ?_ <;> intro hc <;> try omega)
  refine K.s_pure (K.p_makeFuncB rfl rfl) rfl ?_
  (repeat' first | refine X.rq ?_ | refine X.rc ?_ ?_ <;> intro hc <;> try omega)
  refine K.l_buildSlice (Fx.und rfl) (Fx.sz rfl) rfl (Fx.zr rfl) rfl rfl rfl rfl rfl (fun B9 => ?_)
  refine K.WL.bufOf (m := 3) (s := 1) rfl (by unfold maxLen; omega) ?_
  refine K.WL.freezeRowN (es := [.func f1 g1 c1, .func f2 g2 c2, .func (.func 52) #[dv d] #[]].map fun f => [f]) rfl (fun e he => by obtain ⟨n, _, rfl⟩ := List.mem_map.1 he; rfl) (fun h3 le3 hs3 => ?_)
  have hsv : ∀ (j : Nat) f s, [Value.func f1 g1 c1, .func f2 g2 c2, .func (.func 52) #[dv d] #[]][j]? = some f → [wipeS k, writeS (master0 k), syncS][j]? = some s → StepV h3 d f s := fun j f s hf hs => by
   match j with
   | 0 => cases hf; cases hs; exact hs1.le (le2.trans le3)
   | 1 => cases hf; cases hs; exact hs2.le le3
   | 2 => cases hf; cases hs; exact syncV h3 d
   | j + 3 => simp at hf
  (repeat' first | refine X.rq ?_ | refine X.rc ?_ ?_ <;> intro hc <;> try omega)
  refine K.l_call (Fx.cal rfl) rfl (Steps h3 d M D _ _ _ hs3 rfl (by show 3 ≤ 1000; decide) hsv hk (by simp only [sumK, wipeS, writeS, syncS]; omega)) (K.pp [0, 0, 0] rfl) rfl ?_
  rintro u h4 H' le4 ⟨rfl, M', rfl⟩
  (repeat' first | refine X.rq ?_ | refine X.rc ?_ ?_ <;> intro hc <;> try omega)
  exact K.dn (vs := [.int .i64 _]) rfl (le1.trans (le2.trans (le3.trans le4))) (H' := dkA d M' _) rfl ⟨rfl, M', fun h => absurd h hb, rfl⟩
end Go.Proofs.YtijbhgiigddjdaaGreat.Wl
end
