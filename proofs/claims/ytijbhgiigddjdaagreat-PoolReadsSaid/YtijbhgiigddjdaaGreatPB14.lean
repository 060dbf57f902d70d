/-
  Texts joined: Sd Se. Conditions: each theorem's own.
-/
import Derived.Test.YtijbhgiigddjdaaGreatPB13
import Derived.Test.YtijbhgiigddjdaaGreatPB9
set_option linter.unusedVariables false
set_option linter.unusedSimpArgs false
section
namespace Go.K
open Go
set_option linter.unusedSectionVars false
section
variable {P : Program} {n : NN} {Q : Exit → Act → World → Prop} {E : Env} {h : Base} {H : List Asrt} {ops : Array Oper}
theorem WL.freezeBlk {L : List Oper} {T B : Nat} {cs : List Value} (hk : ∀ h', h.le h' → Cels h' [] B 0 cs → WL P n ops Q L E h' H) : WL P n ops Q L E h (blk B T cs :: H) := by
 refine WL.bufOf (m := 1) (s := cs.length) (by simp) (by unfold maxLen; omega) ?_
 have e : cs = [cs].flatten := by simp
 suffices hx : WL P n ops Q L E h (bufA T cs.length (some B) 1 1 [cs].flatten :: H) by rwa [← e] at hx
 refine WL.freezeRowN (es := [cs]) rfl (fun e he => by rw [List.mem_singleton.1 he]) (fun h' le hs => hk h' le ?_)
 obtain ⟨b, o, e1, hc⟩ := hs.at (show [cs][0]? = some cs from rfl)
 simp only [Option.map_some, Option.some.injEq, Addr.mk.injEq, and_true] at e1
 obtain ⟨rfl, rfl⟩ := e1
 simpa using hc
end
end Go.K
namespace Go.Proofs.YtijbhgiigddjdaaGreat.Wl
open Go Go.K Go.Proofs Go.Proofs.YtijbhgiigddjdaaGreat Go.Proofs.YtijbhgiigddjdaaGreat.Ca
set_option maxRecDepth 10000

structure Mas where
 n : Nat
 base : Nat
 check : Nat
 kept : Nat
 wiped : Bool
def masV (m : Mas) : List Value := [.int .i64 m.n, .int .u64 m.base, .int .u64 m.check, .int .u32 m.kept, .bool m.wiped]
structure MasOk (m : Mas) : Prop where
 n : m.n ≤ 8192
 base : m.base < 18446744073709551616
 check : m.check < 18446744073709551616
 kept : m.kept < 4294967296
def magic : List UInt8 := [99, 97, 100, 97, 115, 116, 114, 101]
def padS (l : List UInt8) : Sec := l ++ List.replicate (512 - l.length) 0
def headB (m : Mas) : List UInt8 := magic ++ lebs m.n 4 ++ lebs m.base 8 ++ lebs m.check 8 ++ lebs m.kept 4 ++ (if m.wiped then lebs 1 1 else [])
def masterB (m : Mas) : Sec := padS (headB m)
theorem nul_split {k : Nat} (h : k ≤ 512) : nul 512 = [] ++ nul k ++ nul (512 - k) := by
 unfold nul
 rw [List.nil_append, List.replicate_append_replicate]
 congr 1
 omega
theorem wadd_some {bs : List UInt8} {p : Nat} {a : Option Nat} {cap : Nat} {l : List UInt8} : ∀ {s : WSt}, wadd bs (some (p, some (a, cap, l))) s → ∃ a' cap', s = some (p, some (a', cap', l ++ bs))
 | some (_, some (a', cap', _)), h => ⟨a', cap', by rw [h.1, h.2]⟩
 | none, h => h.elim
 | some (_, none), h => h.elim
theorem head_len (m : Mas) : (headB m).length ≤ 33 := by
 unfold headB
 simp only [List.length_append, lebs_length]
 split
 ·rw [lebs_length]; decide
 ·decide
theorem pad_len {l : List UInt8} (h : l.length ≤ 512) : (padS l).length = 512 := by unfold padS; rw [List.length_append, List.length_replicate]; omega
theorem master_len (m : Mas) : (masterB m).length = 512 := pad_len (by have := head_len m; omega)
set_option maxHeartbeats 2000000 in
theorem MBytes (h : Base) (m : Mas) (hm : MasOk m) : Tr Tryz.prog 94 [.agg (masV m).toArray] h [] (fun v h' H' => H' = [] ∧ ∃ ao ca, v = .slice ao 512 ca ∧ BV h' (.slice ao 512 ca) (masterB m)) := by
 have h1 := hm.n
 have h2' := hm.base
 have h3 := hm.check
 have h4 := hm.kept
 obtain ⟨nn, base, check, kept, wiped⟩ := m
 dsimp only at h1 h2' h3 h4
 unfold masV
 dsimp only
 refine K.enter Tryz.func94 rfl (Nat.le_of_ble_eq_true rfl) (fun F => ?_)
 (repeat' first | refine X.rq ?_ | refine X.rc ?_ ?_ <;> intro hc <;> try omega)
 refine K.l_box rfl rfl rfl (fun B1 => ?_)
 (repeat' first | refine X.rq ?_ | refine X.rc ?_ ?_ <;> intro hc <;> try omega)
 refine K.l_call (Fx.cal rfl) rfl (NewWriter h) (K.pp [] rfl) rfl ?_
 rintro u h2 H' - ⟨rfl, P1, rfl, rfl⟩
 simp only [Go.K.nmz]
 (repeat' first | refine X.rq ?_ | refine X.rc ?_ ?_ <;> intro hc <;> try omega)
 refine K.l_buildSlice (Fx.und rfl) (Fx.sz rfl) rfl (Fx.zr rfl) rfl rfl rfl rfl rfl (fun Bm => ?_)
 refine K.l_mark (m := 8) (Fx.und rfl) (Fx.und rfl) rfl rfl (by unfold maxLen; omega) rfl ?_
 refine K.l_call (Fx.cal rfl) rfl (W_Raw h (some (P1, some (none, 0, []))) (some Bm) 8 magic (by simp only [wb, big, magic]; decide)) (K.pp [1, 0] rfl) rfl ?_
 rintro u h2 H' - ⟨rfl, rfl, s0, hs0, rfl⟩
 obtain ⟨a0, c0, rfl⟩ := wadd_some hs0
 simp only [Go.K.nmz]
 (repeat' first | refine X.rq ?_ | refine X.rc ?_ ?_ <;> intro hc <;> try omega)
 obtain ⟨l0, hl0⟩ : ∃ l, l = magic := ⟨_, rfl⟩
 rw [← hl0]
 have hn0 : l0.length = 8 := by rw [hl0]; rfl
 refine K.l_call (Fx.cal rfl) rfl (W_U32 h (some (P1, some (a0, c0, l0))) nn (by omega) (by simp only [wb, big]; omega)) (K.pp [0] rfl) rfl ?_
 rintro u h' H' - ⟨rfl, rfl, s1, hs1, rfl⟩
 obtain ⟨a1, c1, rfl⟩ := wadd_some hs1
 simp only [Go.K.nmz]
 obtain ⟨l1, hl1⟩ : ∃ l, l = l0 ++ lebs nn 4 := ⟨_, rfl⟩
 rw [← hl1]
 have hn1 : l1.length = l0.length + 4 := by rw [hl1, List.length_append, lebs_length]
 (repeat' first | refine X.rq ?_ | refine X.rc ?_ ?_ <;> intro hc <;> try omega)
 refine K.l_call (Fx.cal rfl) rfl (W_U64 h (some (P1, some (a1, c1, l1))) base (by omega) (by simp only [wb, big]; omega)) (K.pp [0] rfl) rfl ?_
 rintro u h' H' - ⟨rfl, rfl, s2, hs2, rfl⟩
 obtain ⟨a2, c2, rfl⟩ := wadd_some hs2
 simp only [Go.K.nmz]
 obtain ⟨l2, hl2⟩ : ∃ l, l = l1 ++ lebs base 8 := ⟨_, rfl⟩
 rw [← hl2]
 have hn2 : l2.length = l1.length + 8 := by rw [hl2, List.length_append, lebs_length]
 (repeat' first | refine X.rq ?_ | refine X.rc ?_ ?_ <;> intro hc <;> try omega)
 refine K.l_call (Fx.cal rfl) rfl (W_U64 h (some (P1, some (a2, c2, l2))) check (by omega) (by simp only [wb, big]; omega)) (K.pp [0] rfl) rfl ?_
 rintro u h' H' - ⟨rfl, rfl, s3, hs3, rfl⟩
 obtain ⟨a3, c3, rfl⟩ := wadd_some hs3
 simp only [Go.K.nmz]
 obtain ⟨l3, hl3⟩ : ∃ l, l = l2 ++ lebs check 8 := ⟨_, rfl⟩
 rw [← hl3]
 have hn3 : l3.length = l2.length + 8 := by rw [hl3, List.length_append, lebs_length]
 (repeat' first | refine X.rq ?_ | refine X.rc ?_ ?_ <;> intro hc <;> try omega)
 refine K.l_call (Fx.cal rfl) rfl (W_U32 h (some (P1, some (a3, c3, l3))) kept (by omega) (by simp only [wb, big]; omega)) (K.pp [0] rfl) rfl ?_
 rintro u h' H' - ⟨rfl, rfl, s4, hs4, rfl⟩
 obtain ⟨a4, c4, rfl⟩ := wadd_some hs4
 simp only [Go.K.nmz]
 obtain ⟨l4, hl4⟩ : ∃ l, l = l3 ++ lebs kept 4 := ⟨_, rfl⟩
 rw [← hl4]
 have hn4 : l4.length = l3.length + 4 := by rw [hl4, List.length_append, lebs_length]
 cases wiped with
 | true =>
  (repeat' first | refine X.rq ?_ | refine X.rc ?_ ?_ <;> intro hc <;> try omega)
  refine K.l_call (Fx.cal rfl) rfl (W_U8 h (some (P1, some (a4, c4, l4))) 1 (by omega) (by simp only [wb, big]; omega)) (K.pp [0] rfl) rfl ?_
  rintro u h' H' - ⟨rfl, rfl, s5, hs5, rfl⟩
  obtain ⟨a5, c5, rfl⟩ := wadd_some hs5
  simp only [Go.K.nmz]
  obtain ⟨l5, hl5⟩ : ∃ l, l = l4 ++ lebs 1 1 := ⟨_, rfl⟩
  rw [← hl5]
  have hn5 : l5.length = l4.length + 1 := by rw [hl5, List.length_append, lebs_length]
  (repeat' first | refine X.rq ?_ | refine X.rc ?_ ?_ <;> intro hc <;> try omega)
  refine K.l_alloc zrS rfl rfl (fun B4 => ?_)
  (repeat' first | refine X.rq ?_ | refine X.rc ?_ ?_ <;> intro hc <;> try omega)
  refine X.draw ([]) [] (.pu 0 (.pu 1 (.on 2 (.on 3 .nil)))) ?_ (hQ := by repeat (first | with_reducible refine K.NoPanic.then ?_ | with_reducible refine K.NoPanic.inBlock ?_ | with_reducible exact K.post_noPanic _ _ | exact K.post_noPanic _ _ | exact K.QN_noPanic | exact K.postS_noPanic | exact K.postX_noPanic | exact K.RPX_noPanic))
  refine K.d_pu rfl (fun _ _ => K.p_sliceAll (Fx.und rfl) (Fx.sz rfl) rfl) rfl ?_
  refine K.d_pu rfl (fun _ _ => X.mv) rfl ?_
  refine K.d_on rfl (fun KK hKK => ?_)
  refine K.l_call (Fx.cal rfl) rfl (W_Bytes h (some (P1, some (a5, c5, l5))) (by simp only [wb, big]; omega)) (K.pp [1] rfl) rfl ?_
  rintro u h' H' - ⟨rfl, ab, cb, rfl, rfl⟩
  simp only [wb, List.cons_append, List.nil_append]
  refine K.l_nil ?_
  refine X.onE hKK ?_
  refine K.d_on rfl (fun KK hKK => ?_)
  refine K.WL.perm (K.pp [2] rfl) ?_
  rw [nul_split (show l5.length ≤ 512 by omega)]
  refine K.l_copy (k := l5.length) (xs := seB l5) (pre := []) (cs := nul l5.length) (post := nul (512 - l5.length)) (Fx.und rfl) (Fx.sz rfl) rfl rfl (show Nat.min l5.length 512 = l5.length from Nat.min_eq_left (by omega)) (K.src_buf 1 rfl (List.all_eq_true.1 (seB_ones l5)) (by rw [seB_len, Nat.mul_one])) (by rw [seB_len, nul_len]) rfl (fun o ho => by rw [seB_len] at ho; exact K.Free.zero _ o (by omega)) rfl ?_
  simp only [Go.K.nmz]
  refine K.l_nil ?_
  refine X.onE hKK ?_
  refine K.d_nil ?_
  (repeat' first | refine X.rq ?_ | refine X.rc ?_ ?_ <;> intro hc <;> try omega)
  refine K.s_pure (K.p_sliceAll (Fx.und rfl) (Fx.sz rfl) rfl) rfl ?_
  have eh : l5 = headB ⟨nn, base, check, kept, true⟩ := by rw [hl5, hl4, hl3, hl2, hl1, hl0]; rfl
  have ep : seB l5 ++ nul (512 - l5.length) = (masterB ⟨nn, base, check, kept, true⟩).map u8 := by
   unfold masterB padS
   rw [← eh, List.map_append, List.map_replicate]
   rfl
  have ml := master_len ⟨nn, base, check, kept, true⟩
  rw [ep]
  refine K.WL.bufOf (m := 512) (s := 1) (by rw [List.length_map, ml]) (by unfold maxLen; omega) ?_
  refine K.WL.freezeBufN (l := masterB ⟨nn, base, check, kept, true⟩) ml.symm (fun h2 le2 hbv => ?_)
  (repeat' first | refine X.rq ?_ | refine X.rc ?_ ?_ <;> intro hc <;> try omega)
  exact K.dc (vs := [.slice (some ⟨B4, 0, none⟩) 512 512]) (.tmp rfl .nil) le2 (D := [_, _, _, _]) (H' := []) rfl ⟨rfl, _, _, rfl, hbv⟩
 | false =>
  (repeat' first | refine X.rq ?_ | refine X.rc ?_ ?_ <;> intro hc <;> try omega)
  refine K.l_alloc zrS rfl rfl (fun B4 => ?_)
  (repeat' first | refine X.rq ?_ | refine X.rc ?_ ?_ <;> intro hc <;> try omega)
  refine X.draw ([]) [] (.pu 0 (.pu 1 (.on 2 (.on 3 .nil)))) ?_ (hQ := by repeat (first | with_reducible refine K.NoPanic.then ?_ | with_reducible refine K.NoPanic.inBlock ?_ | with_reducible exact K.post_noPanic _ _ | exact K.post_noPanic _ _ | exact K.QN_noPanic | exact K.postS_noPanic | exact K.postX_noPanic | exact K.RPX_noPanic))
  refine K.d_pu rfl (fun _ _ => K.p_sliceAll (Fx.und rfl) (Fx.sz rfl) rfl) rfl ?_
  refine K.d_pu rfl (fun _ _ => X.mv) rfl ?_
  refine K.d_on rfl (fun KK hKK => ?_)
  refine K.l_call (Fx.cal rfl) rfl (W_Bytes h (some (P1, some (a4, c4, l4))) (by simp only [wb, big]; omega)) (K.pp [1] rfl) rfl ?_
  rintro u h' H' - ⟨rfl, ab, cb, rfl, rfl⟩
  simp only [wb, List.cons_append, List.nil_append]
  refine K.l_nil ?_
  refine X.onE hKK ?_
  refine K.d_on rfl (fun KK hKK => ?_)
  refine K.WL.perm (K.pp [2] rfl) ?_
  rw [nul_split (show l4.length ≤ 512 by omega)]
  refine K.l_copy (k := l4.length) (xs := seB l4) (pre := []) (cs := nul l4.length) (post := nul (512 - l4.length)) (Fx.und rfl) (Fx.sz rfl) rfl rfl (show Nat.min l4.length 512 = l4.length from Nat.min_eq_left (by omega)) (K.src_buf 1 rfl (List.all_eq_true.1 (seB_ones l4)) (by rw [seB_len, Nat.mul_one])) (by rw [seB_len, nul_len]) rfl (fun o ho => by rw [seB_len] at ho; exact K.Free.zero _ o (by omega)) rfl ?_
  simp only [Go.K.nmz]
  refine K.l_nil ?_
  refine X.onE hKK ?_
  refine K.d_nil ?_
  (repeat' first | refine X.rq ?_ | refine X.rc ?_ ?_ <;> intro hc <;> try omega)
  refine K.s_pure (K.p_sliceAll (Fx.und rfl) (Fx.sz rfl) rfl) rfl ?_
  have eh : l4 = headB ⟨nn, base, check, kept, false⟩ := by rw [hl4, hl3, hl2, hl1, hl0]; unfold headB; simp
  have ep : seB l4 ++ nul (512 - l4.length) = (masterB ⟨nn, base, check, kept, false⟩).map u8 := by
   unfold masterB padS
   rw [← eh, List.map_append, List.map_replicate]
   rfl
  have ml := master_len ⟨nn, base, check, kept, false⟩
  rw [ep]
  refine K.WL.bufOf (m := 512) (s := 1) (by rw [List.length_map, ml]) (by unfold maxLen; omega) ?_
  refine K.WL.freezeBufN (l := masterB ⟨nn, base, check, kept, false⟩) ml.symm (fun h2 le2 hbv => ?_)
  (repeat' first | refine X.rq ?_ | refine X.rc ?_ ?_ <;> intro hc <;> try omega)
  exact K.dc (vs := [.slice (some ⟨B4, 0, none⟩) 512 512]) (.tmp rfl .nil) le2 (D := [_, _, _, _]) (H' := []) rfl ⟨rfl, _, _, rfl, hbv⟩
end Go.Proofs.YtijbhgiigddjdaaGreat.Wl
end

section
namespace Go.Proofs.YtijbhgiigddjdaaGreat.Wl
open Go Go.K Go.Proofs Go.Proofs.YtijbhgiigddjdaaGreat Go.Proofs.YtijbhgiigddjdaaGreat.Ca
set_option maxRecDepth 10000

theorem trMono {P : Program} {f : FuncId} {args : List Value} {h : Base} {Pre : List Asrt} {Post Post' : Value → Base → List Asrt → Prop} (ht : Tr P f args h Pre Post) (hm : ∀ v h' H', h.le h' → Post v h' H' → Post' v h' H') : Tr P f args h Pre Post' := fun F w ok => Calls.mono (ht F w ok) fun e w' ⟨v, he, h', H', hle, hP, ok'⟩ => ⟨v, he, h', H', hle, hm v h' H' hle hP, ok'⟩
def roomMax : Nat := 1000000000
theorem write_ok {D : Dk} (hk : DkOk D) (hr : D.cache.length + 1 ≤ roomMax) (at_ : Int) (b : Sec) : DkOk (writeQ D at_ b).2 ∧ (writeQ D at_ b).2.cache.length ≤ D.cache.length + 1 ∧ (writeQ D at_ b).2.kept.length = D.kept.length := by
 have hg := hk.goes
 obtain ⟨e1, e2⟩ := goes_kept D
 unfold writeQ
 split
 ·exact ⟨hk, Nat.le_succ _, rfl⟩
 ·rename_i ha
  split
  ·exact ⟨hk, Nat.le_succ _, rfl⟩
  ·rename_i hb
   split
   ·refine ⟨⟨hg.secs, fun l hl => ?_, hg.pos, hg.few, hg.trip, ?_⟩, ?_, ?_⟩
    ·dsimp only at hl ⊢
     rw [e1]
     rcases List.mem_append.1 hl with hl | hl
     ·exact hk.los l hl
     ·rw [List.mem_singleton.1 hl]
      exact ⟨by show at_.toNat < _; omega, by show b.length = 512; omega⟩
    ·dsimp only
     rw [List.length_append, List.length_singleton]
     unfold roomMax at hr
     exact hr
    ·dsimp only
     rw [List.length_append, List.length_singleton]
     exact Nat.le_refl _
    ·dsimp only; rw [e1]
   ·refine ⟨hg, by rw [e2]; exact Nat.le_succ _, by rw [e1]⟩
theorem sync_ok {D : Dk} (hk : DkOk D) : DkOk (syncQ D).2 ∧ (syncQ D).2.cache.length ≤ D.cache.length ∧ (syncQ D).2.kept.length = D.kept.length := by
 have hg := hk.goes
 obtain ⟨e1, e2⟩ := goes_kept D
 unfold syncQ
 split
 ·refine ⟨⟨setL_512 hk.secs (fun l hl => (hk.los l hl).2), fun l hl => (by cases hl), by dsimp only; rw [setL_len]; exact hk.pos, by dsimp only; rw [setL_len]; exact hk.few, hg.trip, Nat.zero_le _⟩, Nat.zero_le _, by dsimp only; rw [setL_len]⟩
 ·exact ⟨hg, by rw [e2]; exact Nat.le_refl _, by rw [e1]⟩
structure Stp where
 q : Dk → Int × Dk
 k : Nat
structure Stp.good (s : Stp) : Prop where
 ok : ∀ D, DkOk D → D.cache.length + s.k ≤ roomMax → DkOk (s.q D).2 ∧ (s.q D).2.cache.length ≤ D.cache.length + s.k ∧ (s.q D).2.kept.length = D.kept.length
def StepV (h : Base) (d : Nat) (fv : Value) (s : Stp) : Prop := s.good ∧ ∃ f fst caps, fv = .func (.func f) (fst : List Value).toArray (caps : List Value).toArray ∧ Callable Tryz.prog f ∧
 ∀ h', h.le h' → ∀ M D, DkOk D → D.cache.length + s.k ≤ roomMax → Tr Tryz.prog f (fst ++ [] ++ caps) h' (dkA d M D) (fun v h'' H' => v = .int .i64 (s.q D).1 ∧ ∃ M', H' = dkA d M' (s.q D).2)
theorem StepV.le {h h' : Base} {d : Nat} {fv : Value} {s : Stp} (hs : StepV h d fv s) (hle : h.le h') : StepV h' d fv s := by
 obtain ⟨h1, f, fst, caps, e, hc, ht⟩ := hs
 exact ⟨h1, f, fst, caps, e, hc, fun h2 l2 => ht h2 (hle.trans l2)⟩
def stepsQ : List Stp → Dk → Int × Dk
 | [], D => (0, D)
 | s :: r, D => if (s.q D).1 ≠ 0 then s.q D else stepsQ r (s.q D).2
def sumK : List Stp → Nat
 | [] => 0
 | s :: r => s.k + sumK r
theorem steps_ok {l : List Stp} (hg : ∀ s ∈ l, s.good) : ∀ {D : Dk}, DkOk D → D.cache.length + sumK l ≤ roomMax → DkOk (stepsQ l D).2 ∧ (stepsQ l D).2.cache.length ≤ D.cache.length + sumK l ∧ (stepsQ l D).2.kept.length = D.kept.length := by
 induction l with
 | nil => exact fun h _ => ⟨h, Nat.le_refl _, rfl⟩
 | cons s r ih =>
  intro D hD hr
  rw [sumK] at hr
  obtain ⟨a, b, c⟩ := (hg s (List.mem_cons_self ..)).ok D hD (by omega)
  rw [stepsQ, sumK]
  split
  ·exact ⟨a, by omega, c⟩
  ·obtain ⟨x, y, z⟩ := ih (fun s hs => hg s (List.mem_cons_of_mem _ hs)) a (by omega)
   exact ⟨x, by omega, z.trans c⟩
structure SpS where
 j : Nat
 hb : Base
 M : DM
 D : Dk
set_option maxHeartbeats 2000000 in
theorem Steps (h : Base) (d : Nat) (M : DM) (D : Dk) (v : Value) (vs : List Value) (l : List Stp) (hv : SL h 1 v (vs.map fun f => [f])) (hl : vs.length = l.length) (hll : l.length ≤ 1000) (hs : ∀ (j : Nat) f s, vs[j]? = some f → l[j]? = some s → StepV h d f s) (hk : DkOk D) (hr : D.cache.length + sumK l ≤ roomMax) :
  Tr Tryz.prog 53 [v] h (dkA d M D) (fun u h' H' => u = .int .i64 (stepsQ l D).1 ∧ ∃ M', H' = dkA d M' (stepsQ l D).2) := by
 obtain ⟨ao, ca, rfl⟩ := hv.len
 rw [List.length_map, hl] at hv ⊢
 refine K.enter Tryz.func53 rfl (Nat.le_of_ble_eq_true rfl) (fun F => ?_)
 (repeat' first | refine X.rq ?_ | refine X.rc ?_ ?_ <;> intro hc <;> try omega)
 refine K.c_loop (σ := SpS) (fun q => [(6, .slice ao l.length ca), (7, .int .i64 l.length), (8, .int .i64 q.j)]) (fun q => q.hb) (fun q => dkA d q.M q.D ++ F)
  (fun q => q.j ≤ l.length ∧ h.le q.hb ∧ DkOk q.D ∧ q.D.cache.length + sumK (l.drop q.j) ≤ roomMax ∧ stepsQ l D = stepsQ (l.drop q.j) q.D) (fun q => l.length - q.j) ⟨0, h, M, D⟩ ⟨Nat.zero_le _, K.Base.le.refl _, hk, hr, rfl⟩ (by repeat (first | exact K.Sub.nil _ | refine K.Sub.cons rfl ?_)) rfl rfl ?_
 rintro ⟨j, hb, M1, D1⟩ ⟨hj, hle, hk1, hr1, hq⟩ KL hKL
 dsimp only at hj hle hk1 hr1 hq ⊢
 by_cases hjl : j < l.length
 ·obtain ⟨s, hsj⟩ : ∃ s, l[j]? = some s := ⟨_, List.getElem?_eq_getElem hjl⟩
  obtain ⟨f, hfj⟩ : ∃ s, vs[j]? = some s := ⟨_, List.getElem?_eq_getElem (by omega)⟩
  have hfe : (vs.map fun f => [f])[(j : Int).toNat]? = some [f] := by rw [Int.toNat_natCast, List.getElem?_map, hfj]; rfl
  have hdr : l.drop j = s :: l.drop (j + 1) := by
   rw [List.drop_eq_getElem_cons hjl, (List.getElem?_eq_some_iff.1 hsj).2]
  rw [hdr] at hr1 hq
  rw [sumK] at hr1
  rw [stepsQ] at hq
  obtain ⟨hg, fi, fst, caps, rfl, hcal, ht⟩ := hs j f s hfj hsj
  obtain ⟨a1, a2, a3⟩ := hg.ok D1 hk1 (by omega)
  have ht := ht hb hle M1 D1 hk1 (by omega)
  (repeat' first | refine X.rq ?_ | refine X.rc ?_ ?_ <;> intro hc <;> try omega)
  refine K.s_pureE (K.p_indexL (hv.le hle) (Fx.und rfl) (Fx.sz rfl) rfl rfl (by omega) hfe) rfl ?_
  rintro v2 ⟨b, o, rfl, hcel⟩
  refine K.s_pure (K.p_load (Fx.agg rfl) rfl (Cels.up hcel).1) rfl ?_
  (repeat' first | refine X.rq ?_ | refine X.rc ?_ ?_ <;> intro hc <;> try omega)
  refine K.l_callB hcal rfl rfl ht (K.pp [0, 0, 0] rfl) rfl ?_
  rintro u h2 H' le2 ⟨rfl, M2, rfl⟩
  by_cases he : (s.q D1).1 = 0
  ·rw [if_neg (by omega)] at hq
   rw [he]
   (repeat' first | refine X.rq ?_ | refine X.rc ?_ ?_ <;> intro hc <;> try omega)
   all_goals try (exfalso; omega)
   refine K.a_round hKL ⟨j + 1, h2, M2, (s.q D1).2⟩ ⟨by dsimp only; omega, hle.trans le2, a1, by dsimp only; omega, hq⟩ (by repeat (first | exact K.Sub.nil _ | refine K.Sub.cons rfl ?_)) rfl rfl (by dsimp only; omega)
  ·rw [if_pos he] at hq
   (repeat' first | refine X.rq ?_ | refine X.rc ?_ ?_ <;> intro hc <;> try omega)
   all_goals try (exfalso; omega)
   exact K.dn (vs := [.int .i64 (s.q D1).1]) rfl (hle.trans le2) (H' := dkA d M2 (s.q D1).2) rfl ⟨by rw [hq]; rfl, M2, by rw [hq]⟩
 ·obtain rfl : j = l.length := by omega
  rw [List.drop_of_length_le (Nat.le_refl _)] at hq
  rw [stepsQ] at hq
  (repeat' first | refine X.rq ?_ | refine X.rc ?_ ?_ <;> intro hc <;> try omega)
  exact K.dn (vs := [.int .i64 0]) rfl hle (H' := dkA d M1 D1) rfl ⟨by rw [hq]; rfl, M1, by rw [hq]⟩
/-! ### The steps -/
def syncS : Stp := ⟨syncQ, 0⟩
def writeS (m : Mas) : Stp := ⟨fun D => writeQ D 0 (masterB m), 1⟩
def wipeQ : Nat → Nat → Dk → Int × Dk
 | 0, _, D => (0, D)
 | n + 1, i, D => if (writeQ D (1 + i : Nat) zs).1 ≠ 0 then writeQ D (1 + i : Nat) zs else wipeQ n (i + 1) (writeQ D (1 + i : Nat) zs).2
def wipeS (n : Nat) : Stp := ⟨wipeQ n 0, n⟩
theorem zs_len : zs.length = 512 := List.length_replicate
theorem syncS_good : syncS.good := ⟨fun D h _ => sync_ok h⟩
theorem writeS_good (m : Mas) : (writeS m).good := ⟨fun D h hr => write_ok h hr _ _⟩
theorem wipe_ok : ∀ (n i : Nat) {D : Dk}, DkOk D → D.cache.length + n ≤ roomMax → DkOk (wipeQ n i D).2 ∧ (wipeQ n i D).2.cache.length ≤ D.cache.length + n ∧ (wipeQ n i D).2.kept.length = D.kept.length
 | 0, _, D, h, _ => ⟨h, Nat.le_refl _, rfl⟩
 | n + 1, i, D, h, hr => by
  obtain ⟨a, b, c⟩ := write_ok h (by omega) (1 + i : Nat) zs
  rw [wipeQ]
  split
  ·exact ⟨a, by omega, c⟩
  ·obtain ⟨x, y, z⟩ := wipe_ok n (i + 1) a (by omega)
   exact ⟨x, by omega, z.trans c⟩
theorem wipeS_good (n : Nat) : (wipeS n).good := ⟨fun D h hr => wipe_ok n 0 h hr⟩
theorem syncV (h : Base) (d : Nat) : StepV h d (.func (.func 52) #[dv d] #[]) syncS :=
 ⟨syncS_good, 52, [dv d], [], rfl, (Fx.cal rfl), fun h' _ M D hk _ => by
  exact trMono (Sync h' d M D hk) fun v h1 H1 _ ⟨e, c, hH⟩ => ⟨e, _, hH⟩⟩
end Go.Proofs.YtijbhgiigddjdaaGreat.Wl
end
