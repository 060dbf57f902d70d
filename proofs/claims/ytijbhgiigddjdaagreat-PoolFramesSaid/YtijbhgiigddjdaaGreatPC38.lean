/-
 A log opened. Conditions: each theorem's own.
-/
import Derived.Test.YtijbhgiigddjdaaGreatPC37
import Derived.Test.YtijbhgiigddjdaaGreatPC23
set_option linter.unusedVariables false
set_option linter.unusedSimpArgs false
set_option maxRecDepth 10000
set_option maxHeartbeats 16000000
namespace Go.K
section
variable {P : Program} {n : NN} {Q : Exit → Act → World → Prop} {E : Env} {h : Base} {H : List Asrt} {ops : Array Oper} {L : List Oper}
theorem WL.allNil (hk : WL P n ops Q L E h (all [] :: H)) : WL P n ops Q L E h H := ⟨fun a w fa ok => hk.run a w fa (Ok.all_iff.2 ok)⟩
end
end Go.K
namespace Go.Proofs.YtijbhgiigddjdaaGreat.Wl
open Go.K Cc Rc

theorem rm_ok {D : Dk} (hk : DkOk D) : DkOk (rmQ D).2 ∧ (rmQ D).2.cache = D.cache ∧ (rmQ D).2.kept = D.kept := by
 have := read_ok hk 0
 unfold rmQ
 cases hq : readQ D 0 with
 | mk r D1 =>
  rw [hq] at this
  cases r <;> exact this
theorem mast_ok {k : Nat} {b : Sec} {m : Mas} (hk : k ≤ 8192) (h : mastQ k b = .ok m) : m = rdMas b ∧ MasOk m ∧ 16 ≤ m.n ∧ m.n < k ∧ 1 ≤ m.base ∧ m.base ≤ lastLSN ∧ masterB m = b := by
 unfold mastQ at h
 split at h
 ·cases h
 ·rename_i hn
  cases h
  have h1 : (rdMas b).base < 18446744073709551616 := lt_take (by decide)
  have h2 : (rdMas b).check < 18446744073709551616 := lt_take (by decide)
  have h3 : (rdMas b).kept < 4294967296 := lt_take (by decide)
  refine ⟨rfl, ⟨by omega, h1, h2, h3⟩, by omega, by omega, by omega, by omega, ?_⟩
  refine Decidable.byContradiction fun hc => hn (.inr (.inr (.inr (.inr (.inr hc)))))
theorem rm_mas {D : Dk} {m : Mas} (hk : DkOk D) (h : (rmQ D).1 = .ok m) : MasOk m ∧ 16 ≤ m.n ∧ m.n < D.kept.length ∧ 1 ≤ m.base ∧ m.base ≤ lastLSN := by
 unfold rmQ at h
 cases hq : readQ D 0 with
 | mk r D1 =>
  rw [hq] at h
  cases r with
  | error e => cases h
  | ok b =>
   obtain ⟨-, a, b', c, d, e, -⟩ := mast_ok hk.few h
   exact ⟨a, b', c, d, e⟩
theorem read_ne {D D' : Dk} {at_ e : Int} (h : readQ D at_ = (.error e, D')) : e ≠ 0 := by
 unfold readQ at h
 split at h
 ·cases h; decide
 ·split at h
  ·cases h
  ·cases h; decide
theorem rm_ne {D : Dk} {e : Int} (h : (rmQ D).1 = .error e) : e ≠ 0 := by
 unfold rmQ at h
 cases hq : readQ D 0 with
 | mk r D1 =>
  rw [hq] at h
  cases r with
  | error x => cases h; exact read_ne hq
  | ok b =>
   simp only at h
   unfold mastQ at h
   split at h
   ·cases h; decide
   ·cases h
theorem ra_ok : ∀ (k i : Nat) (l : List Sec) (st : List UInt8) (en : Bool) {D : Dk}, DkOk D → DkOk (raQ k i l st en D).2 ∧ (raQ k i l st en D).2.cache = D.cache ∧ (raQ k i l st en D).2.kept = D.kept ∧
  (∀ e, (raQ k i l st en D).1 = .error e → e ≠ 0) ∧ (∀ l' st', (raQ k i l st en D).1 = .ok (l', st') → l'.length = l.length + k ∧ ((∀ s ∈ l, s.length = 512) → ∀ s ∈ l', s.length = 512) ∧ st'.length ≤ st.length + 510 * k)
 | 0, i, l, st, en, D, hk => ⟨hk, rfl, rfl, (fun e h => by cases h), fun l' st' h => by cases h; exact ⟨rfl, id, Nat.le_add_right _ _⟩⟩
 | k + 1, i, l, st, en, D, hk => by
  have h1 := read_ok hk (1 + i : Nat)
  have h2 := fun b => read_len hk (at_ := (1 + i : Nat)) (b := b)
  rw [raQ]
  cases hq : readQ D (1 + i : Nat) with
  | mk r D1 =>
   rw [hq] at h1 h2
   obtain ⟨a, b', c⟩ := h1
   cases r with
   | error e => exact ⟨a, b', c, (fun e' h => by cases h; exact read_ne hq), fun l' st' h => by cases h⟩
   | ok b =>
    dsimp only
    split
    ·exact ⟨a, b', c, (fun e' h => by cases h; decide), fun l' st' h => by cases h⟩
    ·obtain ⟨x, y, z, u, v⟩ := ra_ok k (i + 1) (l ++ [b]) (if en then st else st ++ (b.drop 2).take (usedQ b)) (en || decide (usedQ b < 510)) a
     refine ⟨x, y.trans b', z.trans c, u, fun l' st' h => ?_⟩
     obtain ⟨e1, e2, e3⟩ := v l' st' h
     rw [List.length_append, List.length_singleton] at e1
     refine ⟨by omega, fun hl => e2 fun s hs => ?_, ?_⟩
     ·rcases List.mem_append.1 hs with hs | hs
      ·exact hl s hs
      ·rw [List.mem_singleton.1 hs]; exact h2 b rfl
     ·have : (if en then st else st ++ (b.drop 2).take (usedQ b)).length ≤ st.length + 510 := by
       split
       ·omega
       ·rw [List.length_append, List.length_take]; omega
      omega
theorem sv4 {h : Base} {d : Nat} {f0 f1 f2 f3 : Value} {s0 s1 s2 s3 : Stp} (h0 : StepV h d f0 s0) (h1 : StepV h d f1 s1) (h2 : StepV h d f2 s2) (h3 : StepV h d f3 s3) : ∀ (j : Nat) f s, [f0, f1, f2, f3][j]? = some f → [s0, s1, s2, s3][j]? = some s → StepV h d f s := fun j f s hf hs => by
 match j with
 | 0 => cases hf; cases hs; exact h0
 | 1 => cases hf; cases hs; exact h1
 | 2 => cases hf; cases hs; exact h2
 | 3 => cases hf; cases hs; exact h3
 | j + 4 => simp at hf
theorem RecsV.le {h h' : Base} {v : Value} {l : List Recd} (hr : RecsV h v l) (hle : h.le h') : RecsV h' v l := by
 obtain ⟨es, hs, hl, hc⟩ := hr
 exact ⟨es, hs.le hle, hl, fun j c x h1 h2 => (hc j c x h1 h2).le hle⟩
def preQ (m : Mas) (D : Dk) : Int × Dk := if m.wiped then stepsQ [wipeS m.n, syncS, writeS { m with wiped := false }, syncS] D else (0, D)
theorem pre_good (m m' : Mas) : ∀ s ∈ [wipeS m.n, syncS, writeS m', syncS], s.good := fun s hs => by
 simp only [List.mem_cons, List.not_mem_nil, or_false] at hs
 rcases hs with rfl | rfl | rfl | rfl
 ·exact wipeS_good _
 ·exact syncS_good
 ·exact writeS_good _
 ·exact syncS_good
theorem pre_ok {m : Mas} {D : Dk} (hk : DkOk D) (hm : m.n ≤ 8192) (hr : D.cache.length + 10000 ≤ roomMax) : DkOk (preQ m D).2 ∧ (preQ m D).2.cache.length ≤ D.cache.length + 9000 ∧ (preQ m D).2.kept.length = D.kept.length := by
 unfold preQ
 split
 ·obtain ⟨a, b, c⟩ := steps_ok (pre_good m _) hk (by simp only [sumK, wipeS, writeS, syncS]; omega)
  exact ⟨a, Nat.le_trans b (by simp only [sumK, wipeS, writeS, syncS]; omega), c⟩
 ·exact ⟨hk, Nat.le_add_right _ _, rfl⟩
inductive Opens (D : Dk) : Except Int (Lg × List Recd) → Dk → Prop
 | noMaster {e : Int} : (rmQ D).1 = .error e → Opens D (.error e) (rmQ D).2
 | noWipe {m : Mas} : (rmQ D).1 = .ok m → (preQ m (rmQ D).2).1 ≠ 0 → Opens D (.error (preQ m (rmQ D).2).1) (preQ m (rmQ D).2).2
 | noRead {m : Mas} {e : Int} : (rmQ D).1 = .ok m → (preQ m (rmQ D).2).1 = 0 → (raQ m.n 0 [] [] false (preQ m (rmQ D).2).2).1 = .error e → Opens D (.error e) (raQ m.n 0 [] [] false (preQ m (rmQ D).2).2).2
 | noPart {m : Mas} {old : List Sec} {st : List UInt8} {os : List (Recd × Nat)} {k : Nat} {e : Int} : (rmQ D).1 = .ok m → (preQ m (rmQ D).2).1 = 0 → (raQ m.n 0 [] [] false (preQ m (rmQ D).2).2).1 = .ok (old, st) → Part st 0 os k e → (e ≠ 0 ∨ ¬ (m.check = 0 ∨ m.check ∈ stsQ m.base os)) → Opens D (.error 5) (raQ m.n 0 [] [] false (preQ m (rmQ D).2).2).2
 | noMend {m : Mas} {old : List Sec} {st : List UInt8} {os : List (Recd × Nat)} {k : Nat} : (rmQ D).1 = .ok m → (preQ m (rmQ D).2).1 = 0 → (raQ m.n 0 [] [] false (preQ m (rmQ D).2).2).1 = .ok (old, st) → Part st 0 os k 0 → (m.check = 0 ∨ m.check ∈ stsQ m.base os) → (mendQ (st.take k) old 0 (raQ m.n 0 [] [] false (preQ m (rmQ D).2).2).2).1 ≠ 0 → Opens D (.error (mendQ (st.take k) old 0 (raQ m.n 0 [] [] false (preQ m (rmQ D).2).2).2).1) (mendQ (st.take k) old 0 (raQ m.n 0 [] [] false (preQ m (rmQ D).2).2).2).2
 | ok {m : Mas} {old : List Sec} {st : List UInt8} {os : List (Recd × Nat)} {k : Nat} : (rmQ D).1 = .ok m → (preQ m (rmQ D).2).1 = 0 → (raQ m.n 0 [] [] false (preQ m (rmQ D).2).2).1 = .ok (old, st) → Part st 0 os k 0 → (m.check = 0 ∨ m.check ∈ stsQ m.base os) → (mendQ (st.take k) old 0 (raQ m.n 0 [] [] false (preQ m (rmQ D).2).2).2).1 = 0 → Opens D (.ok (⟨{ m with wiped := false }, st.take k, stsQ m.base os, m.base + k⟩, os.map (lsnR m.base))) (mendQ (st.take k) old 0 (raQ m.n 0 [] [] false (preQ m (rmQ D).2).2).2).2
def OpenV (h' : Base) (d : Nat) (r : Except Int (Lg × List Recd)) (u : Value) (H1 : List Asrt) : Prop := match r with
 | .error e => u = .tuple #[.pointer none, .slice none 0 0, .int .i64 e] ∧ H1 = []
 | .ok (L, l) => ∃ p W sv, u = .tuple #[pv p, sv, .int .i64 0] ∧ RecsV h' sv l ∧ StrOk h' W L.stream ∧ H1 = lgA p d W L
theorem Open (h : Base) (d : Nat) (M : DM) (D : Dk) (hk : DkOk D) (hr : D.cache.length + 30000 ≤ roomMax) :
  Tr Tryz.prog 21 [dv d] h (dkA d M D) (fun u h' H' => ∃ r D2 M' H1, Opens D r D2 ∧ H' = H1 ++ dkA d M' D2 ∧ OpenV h' d r u H1) := by
 have hf := hk.few
 obtain ⟨rk, rc, rke⟩ := rm_ok hk
 refine K.en Tryz.func21 fun F => ?_
 (repeat' first | refine X.rq ?_ | refine X.rc ?_ ?_ <;> intro hc <;> try omega)
 refine K.l_call (Fx.cal rfl) rfl (ReadMaster h d M D hk) (K.pp [0, 0, 0] rfl) rfl ?_
 rintro u h1 H' le1 ⟨hm, M1, rfl⟩
 cases hrm : (rmQ D).1 with
 | error e =>
  rw [hrm] at hm
  obtain rfl : u = _ := hm
  have hne := rm_ne hrm
  (repeat' first | refine X.rq ?_ | refine X.rc ?_ ?_ <;> intro hc <;> try omega)
  refine K.l_alloc (Fx.zr rfl) rfl rfl (fun B5 => ?_)
  refine K.l_storeW_at (us := masV mas0) 0 rfl (Fx.sz rfl) rfl rfl rfl rfl rfl ?_
  simp only [Go.K.nmz]
  (repeat' first | refine X.rq ?_ | refine X.rc ?_ ?_ <;> intro hc <;> try omega)
  all_goals try (exfalso; omega)
  exact K.dc (vs := [.pointer none, .slice none 0 0, .int .i64 e]) (.tmp rfl (.tmp rfl (.tmp rfl .nil))) le1 (D := [_]) (H' := [_, _, _]) rfl ⟨_, _, M1, [], .noMaster hrm, rfl, rfl, rfl⟩
 | ok m =>
  rw [hrm] at hm
  obtain rfl : u = _ := hm
  obtain ⟨hmo, hm16, hmn, hmb, hml⟩ := rm_mas hk hrm
  (repeat' first | refine X.rq ?_ | refine X.rc ?_ ?_ <;> intro hc <;> try omega)
  refine K.l_alloc (Fx.zr rfl) rfl rfl (fun B5 => ?_)
  refine K.l_storeW_at (us := masV m) 0 rfl (Fx.sz rfl) rfl rfl rfl rfl rfl ?_
  simp only [Go.K.nmz]
  (repeat' first | refine X.rs ?_ | refine X.rd ?_ ?_ <;> intro hc <;> try omega)
  apply K.c_seq
  apply K.c_seq
  refine X.w ?_
  (repeat' first | refine X.rs ?_ | refine X.rd ?_ ?_ <;> intro hc <;> try omega)
  apply K.c_seq
  refine K.c_join (β := Base × DM) (fun q => [(0, dv d), (5, pv B5)]) (fun q => q.1)
   (fun q => blk B5 131 (masV { m with wiped := false }) :: (dkA d q.2 (preQ m (rmQ D).2).2 ++ F))
   (fun q => h.le q.1 ∧ (preQ m (rmQ D).2).1 = 0) (fun KJ hJ => ?_) ?_
  ·cases hw : m.wiped with
   | false =>
    have hp : preQ m (rmQ D).2 = (0, (rmQ D).2) := by unfold preQ; rw [hw]; rfl
    unfold masV
    rw [hw]
    (repeat' first | refine X.rq ?_ | refine X.rc ?_ ?_ <;> intro hc <;> try omega)
    refine K.a_join hJ (h1, M1) ⟨le1, by rw [hp]⟩ (by repeat (first | exact K.Sub.nil _ | refine K.Sub.cons rfl ?_)) rfl (by rw [hp]; rfl)
   | true =>
    have hp : preQ m (rmQ D).2 = stepsQ [wipeS m.n, syncS, writeS { m with wiped := false }, syncS] (rmQ D).2 := by unfold preQ; rw [hw]; rfl
    have hm2 : MasOk { m with wiped := false } := ⟨hmo.n, hmo.base, hmo.check, hmo.kept⟩
    unfold masV
    rw [hw]
    (repeat' first | refine X.rq ?_ | refine X.rc ?_ ?_ <;> intro hc <;> try omega)
    refine X.sto ?_
    simp only [Go.K.nmz]
    (repeat' first | refine X.rq ?_ | refine X.rc ?_ ?_ <;> intro hc <;> try omega)
    refine X.drawN ([blk B5 131 [.int .i64 m.n, .int .u64 m.base, .int .u64 m.check, .int .u32 m.kept, .bool false]]) [] (.pu 0 (.pu 1 (.pu 4 (.pu 5 (.pu 7 (.pu 9 (.pu 10 (.st 2 (.st 6 (.on 3 (.on 8 (.on 11 (.on 12 (.pu 13 .nil)))))))))))))) ?_
    refine X.u_mv ?_
    refine X.u_fa ?_
    refine X.u_mv ?_
    refine K.d_pu rfl (fun _ _ => K.p_makeFuncB rfl rfl) rfl ?_
    refine X.u_mv ?_
    refine X.u_mv ?_
    refine K.d_pu rfl (fun _ _ => K.p_makeFuncB rfl rfl) rfl ?_
    refine X.s_ld ?_
    refine K.d_st rfl (K.p_loadM (vs := masV { m with wiped := false }) (Fx.agg rfl) rfl (K.cels_own (pre := []) (cs := masV { m with wiped := false }) (post := []) 0 rfl rfl) (Fx.sz rfl) rfl) rfl ?_
    refine K.d_on rfl (fun KK hKK => ?_)
    refine K.l_call (Fx.cal rfl) rfl (WipeV h1 d m.n hmo.n) (K.pp [] rfl) rfl ?_
    rintro u h2 H' le2 ⟨rfl, hs1, f1, g1, c1, rfl⟩
    simp only [List.nil_append]
    refine K.l_nil ?_
    refine X.onE hKK ?_
    refine K.d_on rfl (fun KK hKK => ?_)
    refine K.l_call (Fx.cal rfl) rfl (WriteV h2 d _ hm2) (K.pp [] rfl) rfl ?_
    rintro u h3 H' le3 ⟨rfl, hs2, f2, g2, c2, rfl⟩
    simp only [List.nil_append]
    have le13 := le2.trans le3
    refine K.l_nil ?_
    refine X.onE hKK ?_
    refine K.d_on rfl (fun KK hKK => ?_)
    refine K.l_buildSlice (Fx.und rfl) (Fx.sz rfl) rfl (Fx.zr rfl) rfl rfl rfl rfl rfl (fun B9 => ?_)
    refine K.WL.bufOf (m := 4) (s := 1) rfl (by unfold maxLen; omega) ?_
    refine K.WL.freezeRowN (es := [.func f1 g1 c1, .func (.func 52) #[dv d] #[], .func f2 g2 c2, .func (.func 52) #[dv d] #[]].map fun f => [f]) rfl (fun e he => by obtain ⟨n, _, rfl⟩ := List.mem_map.1 he; rfl) (fun h4 le4 hs4 => ?_)
    have le14 := le13.trans le4
    have hsv := sv4 (hs1.le (le3.trans le4)) (syncV h4 d) (hs2.le le4) (syncV h4 d)
    refine K.l_nil ?_
    refine X.onE hKK ?_
    refine K.d_on rfl (fun KK hKK => ?_)
    refine K.l_call (Fx.cal rfl) rfl (Steps h4 d M1 _ _ _ _ hs4 rfl (by show 4 ≤ 1000; decide) hsv rk (by rw [rc]; simp only [sumK, wipeS, writeS, syncS]; omega)) (K.pp [1, 1, 1] rfl) rfl ?_
    rintro u h5 H' le5 ⟨rfl, M2, rfl⟩
    rw [← hp]
    have le15 := le14.trans le5
    refine K.l_nil ?_
    refine X.onE hKK ?_
    refine X.u_sg ?_
    refine K.d_nil ?_
    have le9 := le1.trans (le2.trans (le3.trans (le4.trans le5)))
    by_cases h0 : (preQ m (rmQ D).2).1 = 0
    ·rw [h0]
     (repeat' first | refine X.rq ?_ | refine X.rc ?_ ?_ <;> intro hc <;> try omega)
     all_goals try (exfalso; omega)
     refine K.AT.perm (K.pp [3] rfl) ?_
     refine K.a_join hJ (h5, M2) ⟨le9, h0⟩ (by repeat (first | exact K.Sub.nil _ | refine K.Sub.cons rfl ?_)) rfl rfl
    ·(repeat' first | refine X.rq ?_ | refine X.rc ?_ ?_ <;> intro hc <;> try omega)
     all_goals try (exfalso; omega)
     refine K.AT.perm (K.pp [3] rfl) ?_
     exact K.dc (vs := [.pointer none, .slice none 0 0, .int .i64 (preQ m (rmQ D).2).1]) (.tmp rfl (.tmp rfl (.tmp rfl .nil))) le9 (D := [_]) (H' := [_, _, _]) rfl ⟨_, _, M2, [], .noWipe hrm h0, rfl, rfl, rfl⟩
  ·rintro ⟨h2, M2⟩ ⟨le2, hp0⟩
   dsimp only at le2 ⊢
   obtain ⟨pk, pc, pke⟩ := pre_ok rk hmo.n (by rw [rc]; omega)
   obtain ⟨ak, ac, ake, ane, aok⟩ := ra_ok m.n 0 [] [] false pk
   unfold masV
   (repeat' first | refine X.rq ?_ | refine X.rc ?_ ?_ <;> intro hc <;> try omega)
   refine K.l_call (Fx.cal rfl) rfl (ReadAll h2 d M2 _ m.n pk hmo.n) (K.pp [1, 1, 1] rfl) rfl ?_
   rintro u h3 H' le3 ⟨M3, H1, rfl, hra⟩
   have le23 := le2.trans le3
   cases hrq : (raQ m.n 0 [] [] false (preQ m (rmQ D).2).2).1 with
   | error e =>
    rw [hrq] at hra
    obtain ⟨rfl, rfl⟩ := hra
    have hne := ane e hrq
    simp only [List.nil_append]
    (repeat' first | refine X.rq ?_ | refine X.rc ?_ ?_ <;> intro hc <;> try omega)
    all_goals try (exfalso; omega)
    refine K.AT.perm (K.pp [3] rfl) ?_
    exact K.dc (vs := [.pointer none, .slice none 0 0, .int .i64 e]) (.tmp rfl (.tmp rfl (.tmp rfl .nil))) le23 (D := [_]) (H' := [_, _, _]) rfl ⟨_, _, M3, [], .noRead hrm hp0 hrq, rfl, rfl, rfl⟩
   | ok x =>
    obtain ⟨old, st⟩ := x
    rw [hrq] at hra
    obtain ⟨a, k, b, c, rfl, rfl⟩ := hra
    obtain ⟨ol, o5, stl⟩ := aok _ _ hrq
    have o5 := o5 (fun s hs => by cases hs)
    simp only [List.length_nil, Nat.zero_add] at ol stl
    have hmn8 := hmo.n
    simp only [Go.K.cna]
    refine K.WL.freezeRowN (m := old.length) (es := old.map seB) (by rw [List.length_map]) (fun e he => by obtain ⟨s, hs, rfl⟩ := List.mem_map.1 he; rw [seB_len]; exact o5 s hs) (fun h4 le4 hs4 => ?_)
    refine K.WL.freezeBufN (l := st) rfl (fun h5 le5 hb5 => ?_)
    obtain ⟨so, hso⟩ : ∃ so, bufV b st.length c = .slice so st.length c := ⟨_, rfl⟩
    obtain ⟨ao, hao⟩ : ∃ ao, bufV a old.length k = .slice ao old.length k := ⟨_, rfl⟩
    rw [hao] at hs4
    rw [hso] at hb5
    rw [hso, hao]
    (repeat' first | refine X.rq ?_ | refine X.rc ?_ ?_ <;> intro hc <;> try omega)
    refine K.l_box rfl rfl rfl (fun p => ?_)
    refine K.WL.perm (K.pp [1, 1, 1, 1] rfl) ?_
    refine K.WL.nilBuf 37 1 ?_
    refine K.WL.allNil ?_
    have le45 := le5
    have le5 := le23.trans (le4.trans le5)
    (repeat' first | refine X.rq ?_ | refine X.rc ?_ ?_ <;> intro hc <;> try omega)
    refine K.l_call (Fx.cal rfl) rfl (PartC h5 p d ⟨{ m with wiped := false }, st, [], 0⟩ so c rfl hb5 (by dsimp only; omega) hml hmo.check) (K.pp [6, 0, 0] rfl) rfl ?_
    rintro u h6 H' le6 ⟨os, kk, e, hpa, hor⟩
    dsimp only at hor
    rcases hor with ⟨rfl, hck, v, W', rfl, hrecs, hstr, rfl⟩ | ⟨hne, rfl, W', L', rfl⟩
    ·have hkl : kk ≤ st.length := (sts_rise (base := 0) hpa).2.2.2.1 (Nat.zero_le _)
     have htl : (st.take kk).length = kk := by rw [List.length_take]; omega
     rw [rc] at pc
     have le6' := le5.trans le6
     have hend : ∀ h9, h6.le h9 → _ := fun h9 le9 => LEnd0 h9 p d W' ⟨{ m with wiped := false }, st.take kk, stsQ m.base os, 0⟩ hmn8 hml (by dsimp only; omega) (hstr.le le9)
     (repeat' first | refine X.rq ?_ | refine X.rc ?_ ?_ <;> intro hc <;> try omega)
     refine K.l_call (Fx.cal rfl) rfl (Mend h6 p d W' ⟨{ m with wiped := false }, st.take kk, stsQ m.base os, 0⟩ M3 _ _ old (hs4.le (le45.trans le6)) o5 (by omega) (by dsimp only; omega) hstr ak (by rw [ac]; omega)) (K.pp [0, 0, 0, 0, 0, 0] rfl) rfl ?_
     rintro u h7 H' le7 ⟨rfl, M4, rfl⟩
     dsimp only
     have le7' := le6'.trans le7
     have hend := hend h7 le7
     by_cases hme : (mendQ (st.take kk) old 0 (raQ m.n 0 [] [] false (preQ m (rmQ D).2).2).2).1 = 0
     ·rw [hme]
      (repeat' first | refine X.rq ?_ | refine X.rc ?_ ?_ <;> intro hc <;> try omega)
      all_goals try (exfalso; omega)
      refine K.l_callV (Fx.cal rfl) rfl hend (K.pp [0, 0, 0] rfl) rfl rfl ?_
      unfold lgA lgV
      simp only [Go.K.cna]
      (repeat' first | refine X.rq ?_ | refine X.rc ?_ ?_ <;> intro hc <;> try omega)
      refine X.sto ?_
      simp only [Go.K.nmz]
      (repeat' first | refine X.rq ?_ | refine X.rc ?_ ?_ <;> intro hc <;> try omega)
      refine K.AT.perm (K.pp [6] rfl) ?_
      have hed : endQ ⟨{ m with wiped := false }, st.take kk, stsQ m.base os, 0⟩ = m.base + kk := by unfold endQ; dsimp only; rw [htl]
      rw [hed]
      exact K.dc (vs := [pv p, v, .int .i64 0]) (.tmp rfl (.tmp rfl (.tmp rfl .nil))) le7' (D := [_]) (H' := [_, _, _, _, _, _]) rfl ⟨_, _, M4, lgA p d W' ⟨{ m with wiped := false }, st.take kk, stsQ m.base os, m.base + kk⟩, .ok hrm hp0 hrq hpa hck hme, rfl, p, W', v, rfl, hrecs.le le7, hstr.le le7, rfl⟩
     ·(repeat' first | refine X.rq ?_ | refine X.rc ?_ ?_ <;> intro hc <;> try omega)
      all_goals try (exfalso; omega)
      refine K.AT.perm (K.pp [0, 0, 0, 3] rfl) ?_
      exact K.dc (vs := [.pointer none, .slice none 0 0, .int .i64 _]) (.tmp rfl (.tmp rfl (.tmp rfl .nil))) le7' (D := [_, _, _, _]) (H' := [_, _, _]) rfl ⟨_, _, M4, [], .noMend hrm hp0 hrq hpa hck hme, rfl, rfl, rfl⟩
    ·(repeat' first | refine X.rq ?_ | refine X.rc ?_ ?_ <;> intro hc <;> try omega)
     all_goals try (exfalso; omega)
     refine K.AT.perm (K.pp [0, 0, 0, 3] rfl) ?_
     exact K.dc (vs := [.pointer none, .slice none 0 0, .int .i64 5]) (.tmp rfl (.tmp rfl (.tmp rfl .nil))) (le5.trans le6) (D := [_, _, _, _]) (H' := [_, _, _]) rfl ⟨_, _, M3, [], .noPart hrm hp0 hrq hpa hne, rfl, rfl, rfl⟩
end Go.Proofs.YtijbhgiigddjdaaGreat.Wl
