/-
 The stream parted into records. Conditions: each theorem's own.
-/
import Derived.Test.YtijbhgiigddjdaaGreatPC24
import Derived.Test.YtijbhgiigddjdaaGreatPC36
set_option linter.unusedVariables false
set_option linter.unusedSimpArgs false
set_option maxRecDepth 10000
set_option maxHeartbeats 16000000
namespace Go.K
section
variable {P : Program} {n : NN} {E : Env} {h : Base} {K : List Asrt} {dst : Option Nat} {t ty : TypeId} {ps : String} {af : Array Edge} {g : Option (Nat × Bool)} {x zh zm : Operand}
theorem p_slice3U {e : TypeId} {s la ca u : Nat} {k2 k3 : IntKind} {ao : Option Addr} (hu : P.underlying t = some (.slice e)) (hs : szOf P e = some s) (hx : lkO E x = some (.slice ao la ca)) (hhi : lkO E zh = some (.int k2 (u : Int))) (hmx : lkO E zm = some (.int k3 (u : Int))) (h1 : u ≤ ca) (hr : u = 0 ∨ ∃ b o, ao = some ⟨b, o, none⟩) :
  Pu P n E h K ⟨dst, .slice t x none (some zh) (some zm), ty, ps, af, g⟩ (.slice ao u u) :=
 ⟨fun a w fa _ => by
  have hb : ∀ (y : Nat) (z : Nat) (k : IntKind) (c : BoundsCode), z ≤ y → (Instr.sliceBound (.int k z) y c).run P w = .ok z w := fun y z k c hz => by
   simp [Instr.sliceBound, asIntOf, hz]
  have key : (Instr.sliceBounds true la ca none (some (a.eval zh)) (some (a.eval zm))).run P w = .ok (0, u, u) w := by
   simp [Instr.sliceBounds, fa.eval hhi, fa.eval hmx, hb _ _ _ _ h1, hb _ _ _ _ (Nat.le_refl u)]
  simp only [execOp, fa.eval hx, Instr.sliceAt, Option.map_none, Option.map_some, Sem.run_bind, run_underlying hu, Result.andThen_ok, Instr.slice, key, run_sizeOf hs, Sem.run_pure]
  rcases hr with rfl | ⟨b, o, rfl⟩
  ·simp
  ·simp [add_none]⟩
end
end Go.K
namespace Go.Proofs.YtijbhgiigddjdaaGreat.Wl
open Go.K Cc Rc

inductive Part (b : List UInt8) : Nat → List (Recd × Nat) → Nat → Int → Prop
 | none {at_ n : Nat} {r : Recd} : Dec (b.drop at_) r n 6 → Part b at_ [] at_ 0
 | err {at_ n : Nat} {r : Recd} {e : Int} : Dec (b.drop at_) r n e → e ≠ 0 → e ≠ 6 → Part b at_ [] at_ e
 | step {at_ n k : Nat} {r : Recd} {os : List (Recd × Nat)} {e : Int} : Dec (b.drop at_) r n 0 → Part b (at_ + n) os k e → Part b at_ ((r, at_) :: os) k e
def lsnR (base : Nat) (o : Recd × Nat) : Recd := { o.1 with lsn := base + o.2 }
def RecsV (h : Base) (v : Value) (l : List Recd) : Prop := ∃ es, SL h 15 v es ∧ RowsG' (RecC h) es l
where RowsG' (R : List Value → Recd → Prop) (es : List (List Value)) (l : List Recd) : Prop := es.length = l.length ∧ ∀ (j : Nat) c x, es[j]? = some c → l[j]? = some x → R c x
theorem dec_ok {b : List UInt8} {r : Recd} {n : Nat} (h : Dec b r n 0) : 3 ≤ n ∧ n ≤ b.length := by
 rcases h with h | h | h | h | h
 ·omega
 ·omega
 ·omega
 ·omega
 ·obtain ⟨_, h2, h3, _, _, rfl, _⟩ := h
  exact ⟨h2.1, h3⟩
theorem dec_zero {b : List UInt8} {r : Recd} {n : Nat} {e : Int} (h : Dec b r n e) : e = 0 ∨ e = 5 ∨ e = 6 := by
 rcases h with h | h | h | h | h <;> omega
theorem rec_lsn {h : Base} {cs : List Value} {r : Recd} {x : Nat} (hr : RecC h cs r) (hx : x < 18446744073709551616) : RecC h (cs.set 1 (n64 x)) { r with lsn := x } := by
 obtain ⟨hw, ao, ca, iv, lv, yv, rfl, h1, h2, h3, h4⟩ := hr
 exact ⟨⟨hw.kind, hx, hw.txn, hw.prev, hw.undo, hw.page, hw.root, hw.op, hw.next, hw.images, hw.lives, hw.dirty, hw.live, hw.dirt⟩, ao, ca, iv, lv, yv, rfl, h1, h2, h3, h4⟩
theorem rec_ones {h : Base} {cs : List Value} {r : Recd} (hr : RecC h cs r) : ones cs = true := by
 obtain ⟨hw, ao, ca, iv, lv, yv, rfl, h1, h2, h3, h4⟩ := hr
 obtain ⟨es, hs, _⟩ := h2
 obtain ⟨_, _, rfl⟩ := hs.len
 obtain ⟨_, _, rfl⟩ := h3.len
 obtain ⟨_, _, rfl⟩ := h4.len
 rfl
theorem rec_len {h : Base} {cs : List Value} {r : Recd} (hr : RecC h cs r) : cs.length = 15 := by
 obtain ⟨hw, ao, ca, iv, lv, yv, rfl, _⟩ := hr
 rfl
theorem BV.cap {h : Base} {ao : Option Addr} {n c : Nat} {l : List UInt8} (hb : BV h (.slice ao n c) l) : l = [] ∨ l.length ≤ c := by
 rcases hb with ⟨_, _, _, rfl⟩ | ⟨b, o, c', e, hc, _⟩
 ·exact .inl rfl
 ·cases e; exact .inr hc
theorem BV.take {h : Base} {ao : Option Addr} {n c k : Nat} {l : List UInt8} (hb : BV h (.slice ao n c) l) (hk : k ≤ l.length) : BV h (.slice ao k k) (l.take k) := by
 rcases hb with ⟨_, _, _, rfl⟩ | ⟨b, o, c', e, hc, hcs⟩
 ·obtain rfl : k = 0 := by simpa using hk
  exact .inl ⟨ao, 0, rfl, rfl⟩
 ·cases e
  have hl : (l.take k).length = k := by rw [List.length_take]; omega
  refine .inr ⟨b, o, k, by rw [hl], by omega, ?_⟩
  rw [← List.take_append_drop k l, List.map_append] at hcs
  exact (Cels.append.1 hcs).1
structure PaS where
 at_ : Nat
 hb : Base
 os : List (Recd × Nat)
 es : List (List Value)
 a : Option Nat
 k : Nat
 ar : Option Nat
 kr : Nat
def stsQ (base : Nat) (os : List (Recd × Nat)) : List Nat := os.map fun o => base + o.2
theorem sts_rise {b : List UInt8} {base at_ k : Nat} {os : List (Recd × Nat)} {e : Int} (h : Part b at_ os k e) : at_ ≤ k ∧ (stsQ base os).Pairwise (· < ·) ∧ (∀ x ∈ stsQ base os, base + at_ ≤ x ∧ x < base + k) ∧ (at_ ≤ b.length → k ≤ b.length) ∧ os.length * 3 + at_ ≤ k := by
 induction h with
 | none _ => exact ⟨Nat.le_refl _, List.Pairwise.nil, (fun x hx => by cases hx), id, by simp⟩
 | err _ _ _ => exact ⟨Nat.le_refl _, List.Pairwise.nil, (fun x hx => by cases hx), id, by simp⟩
 | step hd _ ih =>
  obtain ⟨a, b', c, d, f⟩ := ih
  obtain ⟨h1, h2⟩ := dec_ok hd
  rw [List.length_drop] at h2
  refine ⟨by omega, ?_, fun x hx => ?_, fun h => d (by omega), by rw [List.length_cons]; omega⟩
  ·rw [stsQ, List.map_cons]
   exact List.pairwise_cons.2 ⟨fun x hx => by have := c x hx; omega, b'⟩
  ·rw [stsQ, List.map_cons] at hx
   rcases List.mem_cons.1 hx with rfl | hx
   ·exact ⟨Nat.le_refl _, by omega⟩
   ·have := c x hx; omega
def PartR (L : Lg) (u : Value) (h' : Base) (p d : Nat) (H' : List Asrt) : Prop := ∃ os k e, Part L.stream 0 os k e ∧
  ((e = 0 ∧ (L.m.check = 0 ∨ L.m.check ∈ stsQ L.m.base os) ∧ ∃ v W', u = .tuple #[v, .int .i64 0] ∧ RecsV h' v (os.map (lsnR L.m.base)) ∧ StrOk h' W' (L.stream.take k) ∧ H' = lgA p d W' { L with stream := L.stream.take k, starts := stsQ L.m.base os }) ∨
   ((e ≠ 0 ∨ ¬ (L.m.check = 0 ∨ L.m.check ∈ stsQ L.m.base os)) ∧ u = .tuple #[.slice none 0 0, .int .i64 5] ∧ ∃ W' L', H' = lgA p d W' L'))
theorem PartC (h : Base) (p d : Nat) (L : Lg) (so : Option Addr) (sc : Nat) (hst : L.starts = []) (hb : BV h (.slice so L.stream.length sc) L.stream) (hsl : L.stream.length ≤ 100000000) (hba : L.m.base ≤ lastLSN) (hck : L.m.check < 18446744073709551616) :
  Tr Tryz.prog 58 [pv p] h (lgA p d ⟨.slice so L.stream.length sc, all [], none, 0⟩ L) (fun u h' H' => PartR L u h' p d H') := by
 unfold lastLSN at hba
 obtain ⟨⟨n, base, check, kept, wiped⟩, stream, starts, durable⟩ := L
 dsimp only at hst hb hsl hba hck ⊢
 subst hst
 refine K.en Tryz.func58 fun F => ?_
 unfold lgA lgV startsA n64
 simp only [List.cons_append, List.nil_append, List.map_nil, List.length_nil]
 refine K.WC.nilBuf 92 15 ?_
 (repeat' first | refine X.rq ?_ | refine X.rc ?_ ?_ <;> intro hc <;> try omega)
 refine K.c_loop (σ := PaS) (fun q => [(0, pv p), (4, bufV q.a q.es.length q.k), (5, .int .i64 q.at_)]) (fun q => q.hb)
  (fun q => bufA 92 15 q.a q.es.length q.k q.es.flatten :: blk p 138 [dv d, .int .i64 n, .int .u64 base, .int .u64 check, .int .u32 kept, .bool wiped, .slice so stream.length sc, bufV q.ar q.es.length q.kr, .int .u64 durable] :: all [] :: bufA 37 1 q.ar q.es.length q.kr ((stsQ base q.os).map n64) :: F)
  (fun q => h.le q.hb ∧ q.at_ ≤ stream.length ∧ q.es.length = q.os.length ∧ (∀ (j : Nat) c o, q.es[j]? = some c → q.os[j]? = some o → RecC q.hb c (lsnR base o)) ∧ q.os.length * 3 ≤ q.at_ ∧ ∀ os' k e, Part stream q.at_ os' k e → Part stream 0 (q.os ++ os') k e) (fun q => stream.length - q.at_) ⟨0, h, [], [], none, 0, none, 0⟩
  ⟨K.Base.le.refl _, Nat.zero_le _, rfl, (fun j c o hj => by simp at hj), Nat.zero_le _, fun os' k e hp => hp⟩ (by repeat (first | exact K.Sub.nil _ | refine K.Sub.cons rfl ?_)) rfl rfl ?_
 rintro ⟨at_, hb1, os, es, a, k, ar, kr⟩ ⟨hle, hat, hel, hes, h3, hpt⟩ KL hKL
 dsimp only at hle hat hel hes h3 hpt ⊢
 have hbb := hb.le hle
 (repeat' first | refine X.rq ?_ | refine X.rc ?_ ?_ <;> intro hc <;> try omega)
 refine K.s_pureE (K.p_sliceB (k1 := .i64) (k2 := .i64) (p := at_) (q := stream.length) hbb (Fx.und rfl) (Fx.sz rfl) rfl ⟨_, rfl, rfl⟩ rfl hat (Nat.le_refl _)) rfl ?_
 intro v2 hv2
 rw [List.take_length] at hv2
 refine K.l_call (Fx.cal rfl) rfl (RecDecode hb1 v2 (stream.drop at_) hv2 (by rw [List.length_drop]; omega)) (K.pp [] rfl) rfl ?_
 rintro u h2 H' le2 ⟨rfl, cs, r, nn, e, rfl, hrc, hsm, hlz, hdec⟩
 have hle2 := hle.trans le2
 have hrl := rec_len hrc
 simp only [Go.K.nmz]
 (repeat' first | refine X.rq ?_ | refine X.rc ?_ ?_ <;> intro hc <;> try omega)
 refine K.l_alloc (Fx.zr rfl) rfl rfl (fun B6 => ?_)
 obtain ⟨hwr, aor, car, iv, lv, yv, ecs, _⟩ := id hrc
 refine K.l_storeW_at 0 rfl (by rw [hrl]; exact (Fx.sz rfl)) rfl rfl (rec_ones hrc) (by rw [hrl]; rfl) rfl ?_
 simp only [Go.K.nmz]
 rcases dec_zero hdec with rfl | rfl | rfl
 ·obtain ⟨n1, n2⟩ := dec_ok hdec
  rw [List.length_drop] at n2
  have hrc2 := rec_lsn (x := base + at_) hrc (by omega)
  have hr2 := rec_len hrc2
  rw [ecs] at hrc2 hr2 ⊢
  have eln : (Value.int .u64 ((base : Int) + (at_ : Int))) = n64 (base + at_) := by unfold n64; rw [Int.natCast_add]
  (repeat' first | refine X.rq ?_ | refine X.rc ?_ ?_ <;> intro hc <;> try omega)
  all_goals try (exfalso; omega)
  rw [eln]
  refine X.sto ?_
  simp only [Go.K.nmz]
  obtain ⟨c2, hc2⟩ : ∃ c2, c2 = (cR r (.slice aor r.op.data.length car) iv lv yv).set 1 (n64 (base + at_)) := ⟨_, rfl⟩
  rw [← hc2] at hrc2 hr2 ⊢
  have hc1 : c2[1]? = some (n64 (base + at_)) := by rw [hc2]; rfl
  have ho2 := rec_ones hrc2
  (repeat' first | refine X.rq ?_ | refine X.rc ?_ ?_ <;> intro hc <;> try omega)
  refine K.s_pure (K.p_loadM (vs := c2) (Fx.agg rfl) rfl (K.cels_own (pre := []) (cs := c2) (post := []) 0 (by rw [List.nil_append, List.append_nil]; rfl) rfl) (Fx.sz rfl) hr2) rfl ?_
  refine K.l_buildSlice (cs := c2) (Fx.und rfl) (Fx.sz rfl) rfl (Fx.zr rfl) rfl rfl (by simp [seqOk, Value.cells, hr2]) (by simp [cellsL, Value.cells]) rfl (fun B30 => ?_)
  refine K.l_append_at 2 rfl (Fx.und rfl) (Fx.und rfl) rfl (Fx.sz rfl) (Fx.zr rfl) rfl (Fx.byt rfl) rfl rfl (K.src_cells (m := 1) (K.cels_own (pre := []) (cs := c2) (post := []) 0 (by rw [List.nil_append, List.append_nil]; rfl) rfl) (by rw [hr2]) (List.all_eq_true.1 ho2)) (by omega) (by omega) rfl (fun a' k' => ?_)
  simp only [Go.K.nmz]
  (repeat' first | refine X.rq ?_ | refine X.rc ?_ ?_ <;> intro hc <;> try omega)
  refine X.drawN ([blk B6 92 c2, blk p 138 [dv d, .int .i64 n, .int .u64 base, .int .u64 check, .int .u32 kept, .bool wiped, .slice so stream.length sc, bufV ar es.length kr, .int .u64 durable]]) [11] (.pu 0 (.pu 1 (.pu 2 (.pu 3 (.pu 5 (.st 4 (.st 6 (.on 7 (.on 8 (.pu 9 (.pu 10 (.cl 11 .nil)))))))))))) ?_
  refine X.u_mv ?_
  refine X.u_mv ?_
  refine X.u_nc ?_
  refine X.u_fa ?_
  refine X.u_fa ?_
  refine X.s_ld ?_
  refine K.d_st rfl (K.p_load (v := n64 (base + at_)) (Fx.agg rfl) rfl (K.cel_own 0 rfl hc1)) rfl ?_
  refine K.d_on rfl (fun KK hKK => ?_)
  refine K.l_buildSlice (cs := [n64 (base + at_)]) (Fx.und rfl) (Fx.sz rfl) rfl (Fx.zr rfl) rfl rfl rfl rfl rfl (fun B31 => ?_)
  refine K.l_nil ?_
  refine X.onE hKK ?_
  refine K.d_on rfl (fun KK hKK => ?_)
  refine K.l_append_at 6 rfl (Fx.und rfl) (Fx.und rfl) rfl (Fx.sz rfl) (Fx.zr rfl) rfl (Fx.byt rfl) rfl rfl (K.src_cells (m := 1) (K.cels_own (pre := []) (cs := [n64 (base + at_)]) (post := []) 0 rfl rfl) rfl (fun u hu => by rw [List.mem_singleton.1 hu]; rfl)) (by omega) (by omega) rfl (fun ar' kr' => ?_)
  refine K.l_nil ?_
  refine X.onE hKK ?_
  refine X.u_nc ?_
  refine X.u_fa ?_
  refine K.d_cl rfl (fun KK hKK => ?_)
  refine X.sto ?_
  refine K.l_nil ?_
  refine K.d_clE hKK ?_
  refine K.d_nil ?_
  simp only [Go.K.nmz]
  (repeat' first | refine X.rq ?_ | refine X.rc ?_ ?_ <;> intro hc <;> try omega)
  refine K.AT.sel [0, 0, 0] rfl ?_
  simp only [Go.K.nmz]
  have e1 : es.length + 1 = (es ++ [c2]).length := by simp
  have e2 : es.flatten ++ c2 = (es ++ [c2]).flatten := by simp
  have e3 : (stsQ base os).map n64 ++ [n64 (base + at_)] = (stsQ base (os ++ [(r, at_)])).map n64 := by simp [stsQ]
  rw [e1, e2, e3]
  refine K.a_round hKL ⟨at_ + nn, h2, os ++ [(r, at_)], es ++ [c2], a', k', ar', kr'⟩ ⟨hle2, by dsimp only; omega, by simp [hel], ?_, by dsimp only; rw [List.length_append, List.length_singleton]; omega, fun os' k e hp => ?_⟩ (by repeat (first | exact K.Sub.nil _ | refine K.Sub.cons rfl ?_)) rfl rfl (by dsimp only; omega)
  ·intro j c o hj ho
   dsimp only at hj ho ⊢
   by_cases hjl : j < es.length
   ·rw [List.getElem?_append_left hjl] at hj
    rw [List.getElem?_append_left (by omega)] at ho
    exact (hes j c o hj ho).le le2
   ·rw [List.getElem?_append_right (by omega)] at hj ho
    have hj0 : j - es.length = 0 := by
     have := (List.getElem?_eq_some_iff.1 hj).1
     simp at this; omega
    rw [hj0] at hj
    rw [← hel, hj0] at ho
    cases hj; cases ho
    exact hrc2
  ·dsimp only
   rw [List.append_assoc]
   exact hpt _ _ _ (.step hdec hp)
 ·have esl : es.length = (stsQ base os).length := by rw [hel]; simp [stsQ]
  rw [esl]
  (repeat' first | refine X.rq ?_ | refine X.rc ?_ ?_ <;> intro hc <;> try omega)
  all_goals try (exfalso; omega)
  exact K.dc (vs := [.slice none 0 0, .int .i64 5]) (.tmp rfl (.tmp rfl .nil)) hle2 (D := [_, _]) (H' := [_, _, _]) rfl ⟨os ++ [], at_, 5, hpt _ _ _ (.err hdec (by decide) (by decide)), .inr ⟨.inl (by decide), rfl, ⟨.slice so stream.length sc, all [], ar, kr⟩, ⟨⟨n, base, check, kept, wiped⟩, stream, stsQ base os, durable⟩, rfl⟩⟩
 ·have esl : es.length = (stsQ base os).length := by rw [hel]; simp [stsQ]
  have hp := hpt _ _ _ (.none hdec)
  rw [List.append_nil] at hp
  obtain ⟨-, hrise, hrange, -, -⟩ := sts_rise (base := base) hp
  have hbs : ∀ h9, TrV Tryz.prog 96 [bufV ar (stsQ base os).length kr, n64 check] h9 ([bufA 37 1 ar (stsQ base os).length kr ((stsQ base os).map n64)] ++ []) (.tuple #[.int .i64 (lbQ (stsQ base os) check), .bool (decide (check ∈ stsQ base os))]) ([bufA 37 1 ar (stsQ base os).length kr ((stsQ base os).map n64)] ++ []) := fun h9 => K.TrV.borrow fun h' _ hs => by
   have e1 : ((stsQ base os).map fun x => [n64 x]).flatten = (stsQ base os).map n64 := by
    generalize stsQ base os = l
    induction l with
    | nil => rfl
    | cons x l ih => rw [List.map_cons, List.flatten_cons, ih]; rfl
   have e2 : ((stsQ base os).map fun x => [n64 x]).length = (stsQ base os).length := List.length_map ..
   rw [← e1, ← e2] at hs
   have hsl := K.says_sl (fun e he => by obtain ⟨x, _, rfl⟩ := List.mem_map.1 he; rfl) hs
   rw [e2] at hsl
   exact BSearch h' _ (stsQ base os) check hsl (by simp [stsQ]; omega) hrise
  rw [esl]
  (repeat' first | refine X.rq ?_ | refine X.rc ?_ ?_ <;> intro hc <;> try omega)
  all_goals try (exfalso; omega)
  refine K.WL.perm (K.pp [1] rfl) ?_
  refine K.WL.freezeRowN (es := es) esl.symm (fun e he => by
   obtain ⟨j, hj⟩ := List.mem_iff_getElem?.1 he
   obtain ⟨o, ho⟩ : ∃ o, os[j]? = some o := ⟨_, List.getElem?_eq_getElem (by have := (List.getElem?_eq_some_iff.1 hj).1; omega)⟩
   exact rec_len (hes j e o hj ho)) (fun h3' le3 hs3 => ?_)
  have hrecs : RecsV h3' (bufV a (stsQ base os).length k) (os.map (lsnR base)) := ⟨es, hs3, by rw [List.length_map]; exact hel, fun j c x hj hx => by
   rw [List.getElem?_map] at hx
   obtain ⟨o, ho, rfl⟩ := Option.map_eq_some_iff.1 hx
   exact (hes j c o hj ho).le (le2.trans le3)⟩
  have htl : (stream.take at_).length = at_ := by rw [List.length_take]; omega
  have hstr : StrOk h3' ⟨.slice so at_ at_, all [], ar, kr⟩ (stream.take at_) := .inr ⟨so, by rw [htl], BV.take (hbb.le (le2.trans le3)) hat, rfl⟩
  have hbs := hbs h3'
  refine K.s_pure (K.p_slice3U (k2 := .i64) (k3 := .i64) (Fx.und rfl) (Fx.sz rfl) rfl rfl rfl ?_ ?_) rfl ?_
  ·rcases BV.cap hbb with h0 | h0
   ·rw [h0] at hat; simp at hat; omega
   ·omega
  ·by_cases h0 : at_ = 0
   ·exact .inl h0
   ·obtain ⟨_, b, o, e, _⟩ := BV.cels hbb (by omega)
    exact .inr ⟨b, o, e⟩
  (repeat' first | refine X.rq ?_ | refine X.rc ?_ ?_ <;> intro hc <;> try omega)
  refine X.sto ?_
  simp only [Go.K.nmz]
  (repeat' first | refine X.rq ?_ | refine X.rc ?_ ?_ <;> intro hc <;> try omega)
  refine X.drawN ([blk p 138 [dv d, .int .i64 n, .int .u64 base, .int .u64 check, .int .u32 kept, .bool wiped, .slice so at_ at_, bufV ar (stsQ base os).length kr, .int .u64 durable]]) [] (.pu 0 (.pu 1 (.pu 2 (.pu 4 (.pu 5 (.pu 6 (.pu 7 (.st 3 (.st 8 (.on 9 (.pu 10 (.pu 11 (.pu 12 (.pu 13 (.pu 14 .nil))))))))))))))) ?_
  refine X.u_mv ?_
  refine X.u_nc ?_
  refine X.u_fa ?_
  refine X.u_mv ?_
  refine X.u_nc ?_
  refine X.u_fa ?_
  refine X.u_fa ?_
  refine X.s_ld ?_
  refine X.s_ld ?_
  refine K.d_on rfl (fun KK hKK => ?_)
  refine K.l_callV (Fx.cal rfl) rfl hbs (K.pp [3] rfl) rfl rfl ?_
  simp only [Go.K.cna]
  refine K.l_nil ?_
  refine X.onE hKK ?_
  refine X.u_mv ?_
  refine X.u_ex ?_
  refine X.u_ex ?_
  refine X.u_sg ?_
  refine X.u_sg ?_
  refine K.d_nil ?_
  by_cases hf : check ∈ stsQ base os
  ·rw [decide_eq_true hf]
   (repeat' first | refine X.rq ?_ | refine X.rc ?_ ?_ <;> intro hc <;> try omega)
   all_goals try (exfalso; omega)
   refine K.AT.perm (K.pp [1, 1, 1, 0] rfl) ?_
   exact K.dc (vs := [bufV a (stsQ base os).length k, .int .i64 0]) (.tmp rfl (.tmp rfl .nil)) (hle2.trans le3) (D := [_]) (H' := [_, _, _]) rfl ⟨os, at_, 0, hp, .inl ⟨rfl, .inr hf, _, ⟨.slice so at_ at_, all [], ar, kr⟩, rfl, hrecs, hstr, rfl⟩⟩
  ·rw [decide_eq_false hf]
   by_cases h0 : check = 0
   ·(repeat' first | refine X.rq ?_ | refine X.rc ?_ ?_ <;> intro hc <;> try omega)
    all_goals try (exfalso; omega)
    refine K.AT.perm (K.pp [1, 1, 1, 0] rfl) ?_
    exact K.dc (vs := [bufV a (stsQ base os).length k, .int .i64 0]) (.tmp rfl (.tmp rfl .nil)) (hle2.trans le3) (D := [_]) (H' := [_, _, _]) rfl ⟨os, at_, 0, hp, .inl ⟨rfl, .inl h0, _, ⟨.slice so at_ at_, all [], ar, kr⟩, rfl, hrecs, hstr, rfl⟩⟩
   ·(repeat' first | refine X.rq ?_ | refine X.rc ?_ ?_ <;> intro hc <;> try omega)
    all_goals try (exfalso; omega)
    refine K.AT.perm (K.pp [1, 1, 1, 0] rfl) ?_
    exact K.dc (vs := [.slice none 0 0, .int .i64 5]) (.tmp rfl (.tmp rfl .nil)) (hle2.trans le3) (D := [_]) (H' := [_, _, _]) rfl ⟨os, at_, 0, hp, .inr ⟨.inr (fun h => h.elim h0 hf), rfl, ⟨.slice so at_ at_, all [], ar, kr⟩, ⟨⟨n, base, check, kept, wiped⟩, stream, stsQ base os, durable⟩, rfl⟩⟩
end Go.Proofs.YtijbhgiigddjdaaGreat.Wl
