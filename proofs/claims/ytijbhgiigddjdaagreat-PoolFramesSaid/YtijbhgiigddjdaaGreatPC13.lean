/-
  Texts joined: KP KR KS KT KU Sd. Conditions: each theorem's own.
-/
import Derived.Test.YtijbhgiigddjdaaGreatPC1
import Derived.Defers
import Derived.Recover
import Derived.RangeFuncLeaves
import Derived.RangeFuncSeq
import Derived.StillTail
import Derived.OrdersIn
import Derived.TacticsIn
import Derived.Test.YtijbhgiigddjdaaGreatPC10
import Derived.Test.YtijbhgiigddjdaaGreatPC12
import Derived.Test.YtijbhgiigddjdaaGreatPC8
set_option linter.unusedVariables false
set_option linter.unusedSimpArgs false
set_option maxRecDepth 10000
set_option maxHeartbeats 16000000
section
namespace Go.K

section
variable {P : Program} {n : NN} {Q : Exit → Act → World → Prop} {E : Env} {h : Base} {H : List Asrt} {ops : Array Oper} {rest : List Oper}
variable {d : Nat} {ty : TypeId} {ps : String} {af : Array Edge}
end
end Go.K
end

section
namespace Go.K

section
variable {P : Program} {n : NN} {Q : Exit → Act → World → Prop} {E : Env} {h h' h0 : Base} {H K R F : List Asrt} {ops : Array Oper} {rest : List Oper}
variable {op : Op} {t t' ty : TypeId} {ps : String} {af : Array Edge} {d i b : Nat} {v : Value} {x y : Operand} {dst : Option Nat} {g : Option (Nat × Bool)} {σ : Sch} {ro : Option Nat}

/-! ### Code in a round's frame -/
/-! ### Calls of yield -/
/-! ### A region that draws its order, with a call of yield behind all else -/
/-! ### What an iterator promises; the statement -/
abbrev mark (D : Nat) : Deferred := { target := .collected D, args := #[] }
/-! ### Functions that leave with a mark -/
end
end Go.K
end

section
namespace Go.K
set_option linter.unusedSectionVars false

section
variable {P : Program} {n : NN} {Q : Exit → Act → World → Prop} {E : Env} {h h' h0 : Base} {H K R F : List Asrt} {ops : Array Oper} {rest : List Oper}
variable {op : Op} {t t' ty : TypeId} {ps : String} {af : Array Edge} {d i b : Nat} {v : Value} {x y : Operand} {dst : Option Nat} {g : Option (Nat × Bool)} {ro : Option Nat}

theorem run_callB {f : FuncId} {args : List Operand} {vals fst caps : List Value} {ats : Array TypeId} {a : Act} {w : World} (hc : Callable P f) (fa : Fr n E a) (hx : lkO E x = some (.func (.func f) fst.toArray caps.toArray)) (ha : evArgs E args = some vals) :
  (execOp a.eval ⟨dst, .call ⟨.value x, args.toArray, ats⟩, ty, ps, af, g⟩).run P w = .ok (.enter f (fst ++ vals ++ caps).toArray) w := by
 have h1 := evArgs_eval fa args vals ha
 have h2 : args.toArray.map a.eval = vals.toArray := by rw [List.map_toArray, h1]
 simp only [execOp, resolve, fa.eval hx, Deferred.ofValue, h2, Sem.run_bind, Sem.run_pure, Result.andThen_ok, invoke]
 simp only [List.append_toArray]
 exact hc _ _
theorem l_callB {f : FuncId} {args : List Operand} {vals fst caps : List Value} {ats : Array TypeId} {Pre F : List Asrt} {Post : Value → Base → List Asrt → Prop} (hc : Callable P f) (hx : lkO E x = some (.func (.func f) fst.toArray caps.toArray)) (ha : evArgs E args = some vals) (ht : Tr P f (fst ++ vals ++ caps) h Pre Post)
  (hp : H.Perm (Pre ++ F)) (hd : Nat.blt d n = true) (hk : ∀ v h' H', h.le h' → Post v h' H' → WL P n ops Q rest ((d, v) :: E) h' (H' ++ F)) :
  WL P n ops Q (⟨some d, .call ⟨.value x, args.toArray, ats⟩, ty, ps, af, none⟩ :: rest) E h H :=
 ⟨fun a w fa ok => wpList_plain rfl fun K hK => by
  unfold Oper.wp
  rw [run_callB hc fa hx ha, Oper.upon_enter]
  refine Calls.mono (ht F w (ok.perm hp)) ?_
  rintro e w' ⟨v, rfl, h', H', hle, hP, ok'⟩
  exact hK _ _ ((hk v h' H' hle hP).run _ _ (fa.put v hd) ok')⟩
/-! ### What is put off; what catches -/
end
/-! ### Code in a sane frame -/
section
variable {P : Program} {n : NN} {Q : Exit → Act → World → Prop} {E : Env} {h h' h0 : Base} {H K R F : List Asrt} {ops : Array Oper} {rest : List Oper}
variable {op : Op} {t t' ty : TypeId} {ps : String} {af : Array Edge} {d i b : Nat} {v : Value} {x y : Operand} {dst : Option Nat} {g : Option (Nat × Bool)} {ro : Option Nat}
/-! ### A round that may let something come up -/
/-! ### What an iterator promises -/
/-! ### The statement -/
end
/-! ### Ranges and their marks -/
section
variable {P : Program} {n : NN} {Q : Exit → Act → World → Prop} {E : Env} {h h' h0 : Base} {H K R F : List Asrt} {ops : Array Oper} {rest : List Oper}
end
end Go.K
end

section
namespace Go.K
set_option linter.unusedSectionVars false
section
variable {P : Program} {n : NN} {Q : Exit → Act → World → Prop} {E : Env} {h h' h0 : Base} {H K R F : List Asrt} {ops : Array Oper} {rest : List Oper}
variable {op : Op} {t t' ty : TypeId} {ps : String} {af : Array Edge} {d i b : Nat} {v : Value} {x y : Operand} {dst : Option Nat} {g : Option (Nat × Bool)} {dd : TypeDesc}
theorem p_makeFuncB {f : FuncId} {fst caps : List Operand} {vs us : List Value} (hf : evArgs E fst = some vs) (ha : evArgs E caps = some us) : Pu P n E h K ⟨dst, .makeFunc (.func f) fst.toArray caps.toArray, ty, ps, af, g⟩ (.func (.func f) vs.toArray us.toArray) :=
 ⟨fun s w fa _ => by
  have h1 := evArgs_eval fa caps us ha
  have h2 := evArgs_eval fa fst vs hf
  simp [execOp, Instr.makeFunc, h1, h2]⟩

/-! ### Nothing comes up -/
end
end Go.K
end

section
namespace Go.K
set_option linter.unusedSectionVars false
section
variable {P : Program} {n : NN} {Q : Exit → Act → World → Prop} {E : Env} {h h' h0 : Base} {H K R F : List Asrt} {ops : Array Oper} {rest : List Oper}
variable {op : Op} {t t2 ty : TypeId} {ps : String} {af : Array Edge} {d : Nat} {v : Value} {x y : Operand} {dst : Option Nat}
end
end Go.K
end

section
namespace Go.K
set_option linter.unusedSectionVars false
section
variable {P : Program} {n : NN} {Q : Exit → Act → World → Prop} {E : Env} {h : Base} {H : List Asrt} {ops : Array Oper}
theorem WL.freezeBlk {L : List Oper} {T B : Nat} {cs : List Value} (hk : ∀ h', h.le h' → Cels h' [] B 0 cs → WL P n ops Q L E h' H) : WL P n ops Q L E h (blk B T cs :: H) := by
 refine WL.bufOf (m := 1) (s := cs.length) (by simp) (by unfold maxLen; omega) ?_
 have e : cs = [cs].flatten := by simp
 suffices hx : WL P n ops Q L E h (bufA T cs.length (some B) 1 1 [cs].flatten :: H) by rwa [← e] at hx
 refine WL.freezeRowN (es := [cs]) rfl (fun e he => by rw [List.mem_singleton.1 he]) (fun h' le hs => hk h' le ?_)
 obtain ⟨b, o, e1, hc⟩ := hs.at (show [cs][0]? = some cs from rfl)
 simp only [Option.map_some, Option.some.injEq, Addr.mk.injEq, and_true] at e1
 obtain ⟨rfl, rfl⟩ := e1
 simpa using hc
end
end Go.K
namespace Go.Proofs.YtijbhgiigddjdaaGreat.Wl
open Go.K Ca

structure Mas where
 n : Nat
 base : Nat
 check : Nat
 kept : Nat
 wiped : Bool
def masV (m : Mas) : List Value := [.int .i64 m.n, .int .u64 m.base, .int .u64 m.check, .int .u32 m.kept, .bool m.wiped]
structure MasOk (m : Mas) : Prop where
 n : m.n ≤ 8192
 base : m.base < 18446744073709551616
 check : m.check < 18446744073709551616
 kept : m.kept < 4294967296
def magic : List UInt8 := [99, 97, 100, 97, 115, 116, 114, 101]
def padS (l : List UInt8) : Sec := l ++ List.replicate (512 - l.length) 0
def headB (m : Mas) : List UInt8 := magic ++ lebs m.n 4 ++ lebs m.base 8 ++ lebs m.check 8 ++ lebs m.kept 4 ++ (if m.wiped then lebs 1 1 else [])
def masterB (m : Mas) : Sec := padS (headB m)
theorem nul_split {k : Nat} (h : k ≤ 512) : nul 512 = [] ++ nul k ++ nul (512 - k) := by
 unfold nul
 rw [List.nil_append, List.replicate_append_replicate]
 congr 1
 omega
theorem wadd_some {bs : List UInt8} {p : Nat} {a : Option Nat} {cap : Nat} {l : List UInt8} : ∀ {s : WSt}, wadd bs (some (p, some (a, cap, l))) s → ∃ a' cap', s = some (p, some (a', cap', l ++ bs))
 | some (_, some (a', cap', _)), h => ⟨a', cap', by rw [h.1, h.2]⟩
 | none, h => h.elim
 | some (_, none), h => h.elim
theorem head_len (m : Mas) : (headB m).length ≤ 33 := by
 unfold headB
 simp only [List.length_append, lebs_length]
 split
 ·rw [lebs_length]; decide
 ·decide
theorem pad_len {l : List UInt8} (h : l.length ≤ 512) : (padS l).length = 512 := by unfold padS; rw [List.length_append, List.length_replicate]; omega
theorem master_len (m : Mas) : (masterB m).length = 512 := pad_len (by have := head_len m; omega)
theorem MBytes (h : Base) (m : Mas) (hm : MasOk m) : Tr Tryz.prog 94 [.agg (masV m).toArray] h [] (fun v h' H' => H' = [] ∧ ∃ ao ca, v = .slice ao 512 ca ∧ BV h' (.slice ao 512 ca) (masterB m)) := by
 have h1 := hm.n
 have h2' := hm.base
 have h3 := hm.check
 have h4 := hm.kept
 obtain ⟨nn, base, check, kept, wiped⟩ := m
 dsimp only at h1 h2' h3 h4
 unfold masV
 dsimp only
 refine K.en Tryz.func94 fun F => ?_
 (repeat' first | refine X.rq ?_ | refine X.rc ?_ ?_ <;> intro hc <;> try omega)
 refine K.l_box rfl rfl rfl (fun B1 => ?_)
 (repeat' first | refine X.rq ?_ | refine X.rc ?_ ?_ <;> intro hc <;> try omega)
 refine K.l_call (Fx.cal rfl) rfl (NewWriter h) (K.pp [] rfl) rfl ?_
 rintro u h2 H' - ⟨rfl, P1, rfl, rfl⟩
 simp only [Go.K.nmz]
 (repeat' first | refine X.rq ?_ | refine X.rc ?_ ?_ <;> intro hc <;> try omega)
 refine K.l_buildSlice (Fx.und rfl) (Fx.sz rfl) rfl (Fx.zr rfl) rfl rfl rfl rfl rfl (fun Bm => ?_)
 refine K.l_mark (m := 8) (Fx.und rfl) (Fx.und rfl) rfl rfl (by unfold maxLen; omega) rfl ?_
 refine K.l_call (Fx.cal rfl) rfl (W_Raw h (some (P1, some (none, 0, []))) (some Bm) 8 magic (by simp only [wb, big, magic]; decide)) (K.pp [1, 0] rfl) rfl ?_
 rintro u h2 H' - ⟨rfl, rfl, s0, hs0, rfl⟩
 obtain ⟨a0, c0, rfl⟩ := wadd_some hs0
 simp only [Go.K.nmz]
 (repeat' first | refine X.rq ?_ | refine X.rc ?_ ?_ <;> intro hc <;> try omega)
 obtain ⟨l0, hl0⟩ : ∃ l, l = magic := ⟨_, rfl⟩
 rw [← hl0]
 have hn0 : l0.length = 8 := by rw [hl0]; rfl
 refine K.l_call (Fx.cal rfl) rfl (W_U32 h (some (P1, some (a0, c0, l0))) nn (by omega) (by simp only [wb, big]; omega)) (K.pp [0] rfl) rfl ?_
 rintro u h' H' - ⟨rfl, rfl, s1, hs1, rfl⟩
 obtain ⟨a1, c1, rfl⟩ := wadd_some hs1
 simp only [Go.K.nmz]
 obtain ⟨l1, hl1⟩ : ∃ l, l = l0 ++ lebs nn 4 := ⟨_, rfl⟩
 rw [← hl1]
 have hn1 : l1.length = l0.length + 4 := by rw [hl1, List.length_append, lebs_length]
 (repeat' first | refine X.rq ?_ | refine X.rc ?_ ?_ <;> intro hc <;> try omega)
 refine K.l_call (Fx.cal rfl) rfl (W_U64 h (some (P1, some (a1, c1, l1))) base (by omega) (by simp only [wb, big]; omega)) (K.pp [0] rfl) rfl ?_
 rintro u h' H' - ⟨rfl, rfl, s2, hs2, rfl⟩
 obtain ⟨a2, c2, rfl⟩ := wadd_some hs2
 simp only [Go.K.nmz]
 obtain ⟨l2, hl2⟩ : ∃ l, l = l1 ++ lebs base 8 := ⟨_, rfl⟩
 rw [← hl2]
 have hn2 : l2.length = l1.length + 8 := by rw [hl2, List.length_append, lebs_length]
 (repeat' first | refine X.rq ?_ | refine X.rc ?_ ?_ <;> intro hc <;> try omega)
 refine K.l_call (Fx.cal rfl) rfl (W_U64 h (some (P1, some (a2, c2, l2))) check (by omega) (by simp only [wb, big]; omega)) (K.pp [0] rfl) rfl ?_
 rintro u h' H' - ⟨rfl, rfl, s3, hs3, rfl⟩
 obtain ⟨a3, c3, rfl⟩ := wadd_some hs3
 simp only [Go.K.nmz]
 obtain ⟨l3, hl3⟩ : ∃ l, l = l2 ++ lebs check 8 := ⟨_, rfl⟩
 rw [← hl3]
 have hn3 : l3.length = l2.length + 8 := by rw [hl3, List.length_append, lebs_length]
 (repeat' first | refine X.rq ?_ | refine X.rc ?_ ?_ <;> intro hc <;> try omega)
 refine K.l_call (Fx.cal rfl) rfl (W_U32 h (some (P1, some (a3, c3, l3))) kept (by omega) (by simp only [wb, big]; omega)) (K.pp [0] rfl) rfl ?_
 rintro u h' H' - ⟨rfl, rfl, s4, hs4, rfl⟩
 obtain ⟨a4, c4, rfl⟩ := wadd_some hs4
 simp only [Go.K.nmz]
 obtain ⟨l4, hl4⟩ : ∃ l, l = l3 ++ lebs kept 4 := ⟨_, rfl⟩
 rw [← hl4]
 have hn4 : l4.length = l3.length + 4 := by rw [hl4, List.length_append, lebs_length]
 cases wiped with
 | true =>
  (repeat' first | refine X.rq ?_ | refine X.rc ?_ ?_ <;> intro hc <;> try omega)
  refine K.l_call (Fx.cal rfl) rfl (W_U8 h (some (P1, some (a4, c4, l4))) 1 (by omega) (by simp only [wb, big]; omega)) (K.pp [0] rfl) rfl ?_
  rintro u h' H' - ⟨rfl, rfl, s5, hs5, rfl⟩
  obtain ⟨a5, c5, rfl⟩ := wadd_some hs5
  simp only [Go.K.nmz]
  obtain ⟨l5, hl5⟩ : ∃ l, l = l4 ++ lebs 1 1 := ⟨_, rfl⟩
  rw [← hl5]
  have hn5 : l5.length = l4.length + 1 := by rw [hl5, List.length_append, lebs_length]
  (repeat' first | refine X.rq ?_ | refine X.rc ?_ ?_ <;> intro hc <;> try omega)
  refine K.l_alloc zrS rfl rfl (fun B4 => ?_)
  (repeat' first | refine X.rq ?_ | refine X.rc ?_ ?_ <;> intro hc <;> try omega)
  refine X.drawN ([]) [] (.pu 0 (.pu 1 (.on 2 (.on 3 .nil)))) ?_
  refine K.d_pu rfl (fun _ _ => K.p_sliceAll (Fx.und rfl) (Fx.sz rfl) rfl) rfl ?_
  refine X.u_mv ?_
  refine K.d_on rfl (fun KK hKK => ?_)
  refine K.l_call (Fx.cal rfl) rfl (W_Bytes h (some (P1, some (a5, c5, l5))) (by simp only [wb, big]; omega)) (K.pp [1] rfl) rfl ?_
  rintro u h' H' - ⟨rfl, ab, cb, rfl, rfl⟩
  simp only [wb, List.cons_append, List.nil_append]
  refine K.l_nil ?_
  refine X.onE hKK ?_
  refine K.d_on rfl (fun KK hKK => ?_)
  refine K.WL.perm (K.pp [2] rfl) ?_
  rw [nul_split (show l5.length ≤ 512 by omega)]
  refine K.l_copy (k := l5.length) (xs := seB l5) (pre := []) (cs := nul l5.length) (post := nul (512 - l5.length)) (Fx.und rfl) (Fx.sz rfl) rfl rfl (show Nat.min l5.length 512 = l5.length from Nat.min_eq_left (by omega)) (K.src_buf 1 rfl (List.all_eq_true.1 (seB_ones l5)) (by rw [seB_len, Nat.mul_one])) (by rw [seB_len, nul_len]) rfl (fun o ho => by rw [seB_len] at ho; exact K.Free.zero _ o (by omega)) rfl ?_
  simp only [Go.K.nmz]
  refine K.l_nil ?_
  refine X.onE hKK ?_
  refine K.d_nil ?_
  (repeat' first | refine X.rq ?_ | refine X.rc ?_ ?_ <;> intro hc <;> try omega)
  refine K.s_pure (K.p_sliceAll (Fx.und rfl) (Fx.sz rfl) rfl) rfl ?_
  have eh : l5 = headB ⟨nn, base, check, kept, true⟩ := by rw [hl5, hl4, hl3, hl2, hl1, hl0]; rfl
  have ep : seB l5 ++ nul (512 - l5.length) = (masterB ⟨nn, base, check, kept, true⟩).map u8 := by
   unfold masterB padS
   rw [← eh, List.map_append, List.map_replicate]
   rfl
  have ml := master_len ⟨nn, base, check, kept, true⟩
  rw [ep]
  refine K.WL.bufOf (m := 512) (s := 1) (by rw [List.length_map, ml]) (by unfold maxLen; omega) ?_
  refine K.WL.freezeBufN (l := masterB ⟨nn, base, check, kept, true⟩) ml.symm (fun h2 le2 hbv => ?_)
  (repeat' first | refine X.rq ?_ | refine X.rc ?_ ?_ <;> intro hc <;> try omega)
  exact K.dc (vs := [.slice (some ⟨B4, 0, none⟩) 512 512]) (.tmp rfl .nil) le2 (D := [_, _, _, _]) (H' := []) rfl ⟨rfl, _, _, rfl, hbv⟩
 | false =>
  (repeat' first | refine X.rq ?_ | refine X.rc ?_ ?_ <;> intro hc <;> try omega)
  refine K.l_alloc zrS rfl rfl (fun B4 => ?_)
  (repeat' first | refine X.rq ?_ | refine X.rc ?_ ?_ <;> intro hc <;> try omega)
  refine X.drawN ([]) [] (.pu 0 (.pu 1 (.on 2 (.on 3 .nil)))) ?_
  refine K.d_pu rfl (fun _ _ => K.p_sliceAll (Fx.und rfl) (Fx.sz rfl) rfl) rfl ?_
  refine X.u_mv ?_
  refine K.d_on rfl (fun KK hKK => ?_)
  refine K.l_call (Fx.cal rfl) rfl (W_Bytes h (some (P1, some (a4, c4, l4))) (by simp only [wb, big]; omega)) (K.pp [1] rfl) rfl ?_
  rintro u h' H' - ⟨rfl, ab, cb, rfl, rfl⟩
  simp only [wb, List.cons_append, List.nil_append]
  refine K.l_nil ?_
  refine X.onE hKK ?_
  refine K.d_on rfl (fun KK hKK => ?_)
  refine K.WL.perm (K.pp [2] rfl) ?_
  rw [nul_split (show l4.length ≤ 512 by omega)]
  refine K.l_copy (k := l4.length) (xs := seB l4) (pre := []) (cs := nul l4.length) (post := nul (512 - l4.length)) (Fx.und rfl) (Fx.sz rfl) rfl rfl (show Nat.min l4.length 512 = l4.length from Nat.min_eq_left (by omega)) (K.src_buf 1 rfl (List.all_eq_true.1 (seB_ones l4)) (by rw [seB_len, Nat.mul_one])) (by rw [seB_len, nul_len]) rfl (fun o ho => by rw [seB_len] at ho; exact K.Free.zero _ o (by omega)) rfl ?_
  simp only [Go.K.nmz]
  refine K.l_nil ?_
  refine X.onE hKK ?_
  refine K.d_nil ?_
  (repeat' first | refine X.rq ?_ | refine X.rc ?_ ?_ <;> intro hc <;> try omega)
  refine K.s_pure (K.p_sliceAll (Fx.und rfl) (Fx.sz rfl) rfl) rfl ?_
  have eh : l4 = headB ⟨nn, base, check, kept, false⟩ := by rw [hl4, hl3, hl2, hl1, hl0]; unfold headB; simp
  have ep : seB l4 ++ nul (512 - l4.length) = (masterB ⟨nn, base, check, kept, false⟩).map u8 := by
   unfold masterB padS
   rw [← eh, List.map_append, List.map_replicate]
   rfl
  have ml := master_len ⟨nn, base, check, kept, false⟩
  rw [ep]
  refine K.WL.bufOf (m := 512) (s := 1) (by rw [List.length_map, ml]) (by unfold maxLen; omega) ?_
  refine K.WL.freezeBufN (l := masterB ⟨nn, base, check, kept, false⟩) ml.symm (fun h2 le2 hbv => ?_)
  (repeat' first | refine X.rq ?_ | refine X.rc ?_ ?_ <;> intro hc <;> try omega)
  exact K.dc (vs := [.slice (some ⟨B4, 0, none⟩) 512 512]) (.tmp rfl .nil) le2 (D := [_, _, _, _]) (H' := []) rfl ⟨rfl, _, _, rfl, hbv⟩
end Go.Proofs.YtijbhgiigddjdaaGreat.Wl
end
