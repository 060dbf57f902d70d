/-
  Texts joined: Fp Fq Gb Oa KZ Om R4. Conditions: each theorem's own.
-/
import Derived.Test.YtijbhgiigddjdaaGreatPC6
import Derived.Test.YtijbhgiigddjdaaGreatPC8
import Derived.Test.YtijbhgiigddjdaaGreatPC1
import Derived.Test.YtijbhgiigddjdaaGreatPC4
set_option linter.unusedVariables false
set_option linter.unusedSimpArgs false
set_option maxRecDepth 10000
set_option maxHeartbeats 16000000
section
namespace Go.Proofs.YtijbhgiigddjdaaGreat.Pg
open Go.K

section
variable {P : Program} {n : NN} {Q : Exit → Act → World → Prop} {E : Env} {h h1 : Base} {F : List Asrt} {ops : Array Oper}
end
end Go.Proofs.YtijbhgiigddjdaaGreat.Pg
end

section
namespace Go.Proofs.YtijbhgiigddjdaaGreat.Pg
open Go.K

end Go.Proofs.YtijbhgiigddjdaaGreat.Pg
end

section
namespace Go.Proofs.YtijbhgiigddjdaaGreat.Pg
open Go.K

section
variable {P : Program} {n : NN} {Q : Exit → Act → World → Prop} {E : Env} {h : Base} {A Hs F : List Asrt} {ops : Array Oper}
theorem Ok.allGet {X : Asrt} {i : Nat} {w : World} (hi : Hs[i]? = some X) (ok : Ok h (all Hs :: F) w) : Ok h (X :: all (Hs.eraseIdx i) :: F) w := by
 have ok1 := K.Ok.all_iff.1 ok
 have ok2 : Ok h (Hs.eraseIdx i ++ (X :: F)) w := ok1.perm (((K.at_perm hi).append_right F).trans List.perm_middle.symm)
 exact (K.Ok.all_iff.2 ok2).perm (List.Perm.swap _ _ _)
theorem Ok.allRet {X : Asrt} {i : Nat} {w : World} (hi : i < Hs.length) (ok : Ok h (X :: all (Hs.eraseIdx i) :: F) w) : Ok h (all (Hs.set i X) :: F) w := by
 have ok1 := K.Ok.allCons ok
 have hp := K.at_perm (l := Hs.set i X) (i := i) (A := X) (by rw [List.getElem?_set_self hi])
 rw [List.eraseIdx_set_eq] at hp
 exact K.Ok.allPerm hp.symm ok1
theorem WC.allGet {c : Code} {X : Asrt} {i : Nat} (hi : Hs[i]? = some X) (hx : WC P n c Q E h (X :: all (Hs.eraseIdx i) :: F)) : WC P n c Q E h (all Hs :: F) := ⟨fun a w fa ok => hx.run a w fa (Ok.allGet hi ok)⟩
theorem WL.allRet {L : List Oper} {X : Asrt} {i : Nat} (hi : i < Hs.length) (hx : WL P n ops Q L E h (all (Hs.set i X) :: F)) : WL P n ops Q L E h (X :: all (Hs.eraseIdx i) :: F) := ⟨fun a w fa ok => hx.run a w fa (Ok.allRet hi ok)⟩
theorem AT.allRet {q : Exit} {X : Asrt} {i : Nat} (hi : i < Hs.length) (hx : AT P n Q q E h (all (Hs.set i X) :: F)) : AT P n Q q E h (X :: all (Hs.eraseIdx i) :: F) := ⟨fun a w fa ok => hx.run a w fa (Ok.allRet hi ok)⟩
end
end Go.Proofs.YtijbhgiigddjdaaGreat.Pg
end

section
namespace Go.Proofs.YtijbhgiigddjdaaGreat.Pl
open Go.K Pg

structure OwS where
 m : List OC
 a : Option Nat
 k : Nat
 n : Nat
 cs : List Value
 hs : List Asrt
theorem QOwn (h : Base) (cs : List Value) (p : Pag) (hx : PagC h cs p) (hs : smallX p.cells) : Tr Tryz.prog 35 [.agg cs.toArray] h [] (OwnP h p) := by
 obtain ⟨hw, cv, rfl, es, hv, hel, hr⟩ := hx
 have hlen := hw.len
 obtain ⟨ao, ca, rfl⟩ := hv.len
 rw [hel] at hv ⊢
 unfold OwnP
 generalize hpl : p.cells = l at hv hel hr hlen hs ⊢
 have hl400 := hs.1
 have hs2 := fun (_ : Unit) => hs.2
 clear hs
 refine K.en Tryz.func35 fun F => ?_
 simp only [List.nil_append]
 (repeat' first | refine X.rq ?_ | refine X.rc ?_ ?_ <;> intro hc <;> try omega)
 refine K.l_box rfl rfl rfl (fun B1 => ?_)
 refine K.l_alloc (Fx.zr rfl) rfl rfl (fun B2 => ?_)
 (repeat' first | refine X.rq ?_ | refine X.rc ?_ ?_ <;> intro hc <;> try omega)
 refine K.WC.nilBuf 120 3 ?_
 refine Pg.WC.allNil ?_
 refine K.c_loop (σ := OwS) (fun q => [(1, .pointer (some ⟨B1, 0, none⟩)), (2, .pointer (some ⟨B2, 0, none⟩)), (3, bufV q.a q.n q.k), (7, .slice ao l.length ca), (8, .int .i64 l.length), (9, .int .i64 q.n)]) (fun _ => h)
  (fun q => all q.hs :: bufA 120 3 q.a q.n q.k q.cs :: blk B2 41 (cP ⟨0, 0, 0, []⟩ (.slice none 0 0)) :: blk B1 41 (cP p (.slice ao l.length ca)) :: F)
  (fun q => q.n ≤ l.length ∧ q.m.map OC.cell = l.take q.n ∧ okO q.m ∧ q.n = q.m.length ∧ q.cs = (q.m.map rowO).flatten ∧ q.hs = q.m.map datA) (fun q => l.length - q.n) ⟨[], none, 0, 0, [], []⟩ ⟨Nat.zero_le _, rfl, (fun c hc => by cases hc), rfl, rfl, rfl⟩ (by repeat (first | exact K.Sub.nil _ | refine K.Sub.cons rfl ?_)) rfl rfl ?_
 rintro ⟨m, a, k, n, cs, hs⟩ ⟨hj, hmc, hmk, hn, hcs, hhs⟩ KL hKL
 dsimp only at hj hmc hmk hn hcs hhs ⊢
 by_cases hjl : n < l.length
 ·have hc1 : es[n]? = some (es[n]'(by omega)) := List.getElem?_eq_getElem (by omega)
  have hc0 : es[((n : Nat) : Int).toNat]? = some (es[n]'(by omega)) := by rw [Int.toNat_natCast]; exact hc1
  have he1 : l[n]? = some l[n] := List.getElem?_eq_getElem hjl
  generalize es[n]'(by omega) = c at hc0 hc1
  have hmem : l[n] ∈ l := List.getElem_mem hjl
  generalize l[n] = x at he1 hmem
  have hd4 := hs2 () x hmem
  obtain ⟨hkl, hdl, ao3, ca3, rfl, hbv⟩ := hr n c x hc1 he1
  have hcl := Clone h _ x.data hbv (by omega)
  (repeat' first | refine X.rq ?_ | refine X.rc ?_ ?_ <;> intro hc <;> try omega)
  refine K.s_pureE (K.p_indexL hv (Fx.und rfl) (Fx.sz rfl) rfl rfl (by omega) hc0) rfl ?_
  rintro v2 ⟨b, o, rfl, hcel⟩
  refine K.s_pure (K.p_loadM (Fx.agg rfl) rfl (Cels.up hcel) (Fx.sz rfl) rfl) rfl ?_
  refine K.l_alloc (Fx.zr rfl) rfl rfl (fun B5 => ?_)
  refine X.stw ?_
  simp only [Go.K.nmz]
  (repeat' first | refine X.rq ?_ | refine X.rc ?_ ?_ <;> intro hc <;> try omega)
  refine K.l_call (Fx.cal rfl) rfl hcl (K.pp [] rfl) rfl ?_
  rintro u h' H' - ⟨e, a2, cap2, rfl, rfl⟩
  obtain rfl := e.symm
  simp only [List.nil_append, List.cons_append]
  (repeat' first | refine X.rq ?_ | refine X.rc ?_ ?_ <;> intro hc <;> try omega)
  refine X.sto ?_
  simp only [Go.K.nmz]
  (repeat' first | refine X.rq ?_ | refine X.rc ?_ ?_ <;> intro hc <;> try omega)
  refine K.l_buildSlice (Fx.und rfl) (Fx.sz rfl) rfl (Fx.zr rfl) rfl rfl rfl (cs := [.bool x.used, .int .u32 x.killer, bufV a2 x.data.length cap2]) rfl rfl (fun B6 => ?_)
  refine K.l_append_at 4 rfl (Fx.und rfl) (Fx.und rfl) rfl (Fx.sz rfl) (Fx.zr rfl) rfl (Fx.byt rfl) rfl rfl (K.src_cells (K.cels_own (pre := []) (cs := [.bool x.used, .int .u32 x.killer, bufV a2 x.data.length cap2]) (post := []) 0 rfl rfl) rfl (by simp [oneCell, bufV])) (by omega) (by omega) rfl (fun a6 cap6 => ?_)
  simp only [Go.K.nmz]
  (repeat' first | refine X.rq ?_ | refine X.rc ?_ ?_ <;> intro hc <;> try omega)
  refine K.AT.sel [0, 1] rfl ?_
  refine Pg.AT.allPush (A := datA ⟨x.used, x.killer, a2, cap2, x.data⟩) (Hs := hs) ?_
  refine K.a_round hKL ⟨m ++ [⟨x.used, x.killer, a2, cap2, x.data⟩], a6, cap6, n + 1, cs ++ [.bool x.used, .int .u32 x.killer, bufV a2 x.data.length cap2], hs ++ [datA ⟨x.used, x.killer, a2, cap2, x.data⟩]⟩ ⟨by dsimp only; omega, ?_, fun c hc => ?_, by dsimp only; rw [List.length_append, hn]; rfl, by dsimp only; rw [hcs, List.map_append, List.flatten_append]; rfl, by dsimp only; rw [hhs, List.map_append]; rfl⟩ (by repeat (first | exact K.Sub.nil _ | refine K.Sub.cons rfl ?_)) rfl rfl (by dsimp only; omega)
  ·dsimp only
   rw [List.map_append, hmc, List.take_add_one, he1]
   rfl
  ·rcases List.mem_append.1 hc with hc | hc
   ·exact hmk c hc
   ·rw [List.mem_singleton.1 hc]; exact hkl
 ·obtain rfl : n = l.length := by omega
  rw [List.take_length] at hmc
  (repeat' first | refine X.rq ?_ | refine X.rc ?_ ?_ <;> intro hc <;> try omega)
  refine X.sto ?_
  simp only [Go.K.nmz]
  (repeat' first | refine X.rq ?_ | refine X.rc ?_ ?_ <;> intro hc <;> try omega)
  refine X.stw ?_
  simp only [Go.K.nmz]
  (repeat' first | refine X.rq ?_ | refine X.rc ?_ ?_ <;> intro hc <;> try omega)
  refine K.AT.perm (K.pp [2, 2, 1, 0] rfl) ?_
  simp only [Go.K.nmz]
  refine K.dc (vs := [.agg (cP p (bufV a l.length k)).toArray]) (.cell rfl (Fx.agg rfl) (Fx.sz rfl) (by first | exact K.cels_own (pre := []) (post := []) 0 rfl rfl | exact K.cels_own (pre := []) (post := []) 1 rfl rfl) .nil) (by first | exact K.Base.le.refl _ | assumption) (D := [_, _]) (H' := [bufA 120 3 a l.length k cs, all hs]) rfl ⟨rfl, a, k, m, hmc.symm, hmk, rfl, ?_⟩
  rw [pgA, ← hn, hcs, hhs]
def zeroQ (p : Pag) : Bool := decide (p.kind = 0) && decide (p.lsn = 0) && decide (p.next = 0) && decide (p.cells.length = 0)
theorem QZero (h : Base) (cs : List Value) (p : Pag) (hx : PagC h cs p) : TrV Tryz.prog 46 [.agg cs.toArray] h [] (.bool (zeroQ p)) [] := by
 obtain ⟨hw, cv, rfl, es, hv, hel, hr⟩ := hx
 obtain ⟨ao, ca, rfl⟩ := hv.len
 rw [hel]
 clear hw hr hv
 refine K.en Tryz.func46 fun F => ?_
 simp only [List.nil_append]
 unfold zeroQ
 (repeat' first | refine X.rq ?_ | refine X.rc ?_ ?_ <;> intro hc <;> try omega)
 refine K.l_box rfl rfl rfl (fun B1 => ?_)
 by_cases h1 : p.kind = 0
 ·by_cases h2 : p.lsn = 0
  ·by_cases h3 : p.next = 0
   ·(repeat' first | refine X.rq ?_ | refine X.rc ?_ ?_ <;> intro hc <;> try omega)
    refine K.AT.drop ?_
    refine K.dl rfl (H' := []) rfl ⟨?_, rfl, rfl⟩
    rw [decide_eq_true h1, decide_eq_true h2, decide_eq_true h3, Bool.true_and, Bool.true_and, Bool.true_and]
    show Value.bool _ = Value.bool _
    congr 1
    exact decide_eq_decide.2 (by omega)
   ·(repeat' first | refine X.rq ?_ | refine X.rc ?_ ?_ <;> intro hc <;> try omega)
    refine K.AT.drop ?_
    refine K.dl rfl (H' := []) rfl ⟨?_, rfl, rfl⟩
    rw [decide_eq_false h3, Bool.and_false, Bool.false_and]; simp [packV]
  ·(repeat' first | refine X.rq ?_ | refine X.rc ?_ ?_ <;> intro hc <;> try omega)
   refine K.AT.drop ?_
   refine K.dl rfl (H' := []) rfl ⟨?_, rfl, rfl⟩
   rw [decide_eq_false h2, Bool.and_false, Bool.false_and, Bool.false_and]; simp [packV]
 ·(repeat' first | refine X.rq ?_ | refine X.rc ?_ ?_ <;> intro hc <;> try omega)
  refine K.AT.drop ?_
  refine K.dl rfl (H' := []) rfl ⟨?_, rfl, rfl⟩
  rw [decide_eq_false h1, Bool.false_and, Bool.false_and, Bool.false_and]; simp [packV]
theorem wfZ : wfP (⟨0, 0, 0, []⟩ : Pag) := ⟨by decide, by decide, by decide, by decide⟩
theorem pagZ (h : Base) : PagC h (cP ⟨0, 0, 0, []⟩ (.slice none 0 0)) ⟨0, 0, 0, []⟩ := ⟨wfZ, _, rfl, [], .inl ⟨_, _, rfl, rfl⟩, rfl, fun j c x hc => by cases hc⟩
theorem zero_iff (p : Pag) : zeroQ p = true ↔ p = ⟨0, 0, 0, []⟩ := by
 obtain ⟨k, l, n, cs⟩ := p
 unfold zeroQ
 simp only [Bool.and_eq_true, decide_eq_true_eq, Pag.mk.injEq, List.length_eq_zero_iff]
 exact ⟨fun ⟨⟨⟨a, b⟩, c⟩, d⟩ => ⟨a, b, c, d⟩, fun ⟨a, b, c, d⟩ => ⟨⟨⟨a, b⟩, c⟩, d⟩⟩
theorem LZero (h : Base) (cs : List Value) (p : Pag) (hx : PagC h cs p) : TrV Tryz.prog 12 [.agg cs.toArray] h [] (.bool (zeroQ p)) [] := by
 have hsame := SameP h cs _ p _ hx (pagZ h)
 have hz := zero_iff p
 rw [show zeroQ p = decide (p = ⟨0, 0, 0, []⟩) by rw [Bool.eq_iff_iff, hz, decide_eq_true_iff]]
 obtain ⟨hw, cv, rfl, es, hv, hel, hr⟩ := hx
 refine K.en Tryz.func12 fun F => ?_
 simp only [List.nil_append]
 (repeat' first | refine X.rq ?_ | refine X.rc ?_ ?_ <;> intro hc <;> try omega)
 refine K.l_box rfl rfl rfl (fun B1 => ?_)
 (repeat' first | refine X.rq ?_ | refine X.rc ?_ ?_ <;> intro hc <;> try omega)
 refine K.l_callV (Fx.cal rfl) rfl hsame (K.pp [] rfl) rfl rfl ?_
 simp only [List.nil_append]
 (repeat' first | refine X.rq ?_ | refine X.rc ?_ ?_ <;> intro hc <;> try omega)
 refine K.AT.drop ?_
 refine K.dl rfl (H' := []) rfl ⟨rfl, rfl, rfl⟩
end Go.Proofs.YtijbhgiigddjdaaGreat.Pl
end

section
namespace Go.K

theorem Ok.forget {h h1 : Base} {F : List Asrt} {w : World} (hle : h.le h1) (ok : Ok h1 F w) : Ok h F w :=
 ⟨ok.os.trans hle.os, ok.tape.trans hle.tape, ok.output.trans hle.output, ⟨fun b o hb => ok.sat.imm b o (hle.mem b o hb), ok.sat.own⟩, ok.nd, fun b hb => by
  cases hm : h.mem b with
  | none => rfl
  | some o => have := hle.mem b o hm; rw [ok.dj b hb] at this; cases this⟩
section
variable {P : Program} {n : NN} {Q : Exit → Act → World → Prop} {E : Env} {h h1 : Base} {A R F : List Asrt} {ops : Array Oper}
theorem AT.forget {q : Exit} (hle : h.le h1) (hx : AT P n Q q E h F) : AT P n Q q E h1 F := ⟨fun a w fa ok => hx.run a w fa (Ok.forget hle ok)⟩
theorem WL.dropsA {L : List Oper} (hx : WL P n ops Q L E h F) : WL P n ops Q L E h (A ++ F) := ⟨fun a w fa ok => hx.run a w fa ok.drops⟩
theorem Tr.give {f : FuncId} {args : List Value} {Q : Value → List Asrt → Prop} (ht : ∀ h', h.le h' → Says h' A → Tr P f args h' R (fun u h1 H1 => Q u H1)) :
  Tr P f args h (A ++ R) (fun u h1 H1 => h1 = h ∧ Q u H1) := fun F w ok => by
 rw [List.append_assoc] at ok
 obtain ⟨h', hle, hs, ok', _⟩ := ok.freezeA
 refine Calls.mono (ht h' hle hs F w ok') fun e w' ⟨u, he, h1, H1, hle1, q2, ok1⟩ => ⟨u, he, h, H1, .refl _, ⟨rfl, q2⟩, ?_⟩
 exact Ok.forget (hle.trans hle1) ok1
theorem Tr.forget {f : FuncId} {args : List Value} {Q : Value → List Asrt → Prop} (ht : Tr P f args h R (fun u h1 H1 => Q u H1)) : Tr P f args h R (fun u h1 H1 => h1 = h ∧ Q u H1) := fun F w ok =>
 Calls.mono (ht F w ok) fun e w' ⟨u, he, h1, H1, hle1, q2, ok1⟩ => ⟨u, he, h, H1, .refl _, ⟨rfl, q2⟩, Ok.forget hle1 ok1⟩
end
theorem says_blk {h : Base} {T b : Nat} {cs : List Value} (hs : Says h [blk b T cs]) : Cels h [] b 0 cs := cels_of fun j u hj => ⟨fun w hw => by
 have e := hs.2 w hw _ (List.mem_singleton.2 rfl)
 rw [Nat.zero_add]
 exact (cel_own (K := [blk b T cs]) (h := h) 0 rfl hj).run w ⟨hw.imm, fun A hA => by
  rw [List.mem_singleton] at hA; subst hA; exact e⟩⟩
abbrev n64 (x : Nat) : Value := .int .u64 (x : Int)
def U64s (h : Base) (v : Value) (xs : List Nat) : Prop := SL h 1 v (xs.map fun x => [n64 x])
theorem says_nums {h : Base} {T b : Nat} {xs : List Nat} (hs : Says h [blk b T (xs.map n64)]) : U64s h (.slice (some ⟨b, 0, none⟩) xs.length xs.length) xs := by
 have hc := says_blk hs
 refine .inr ⟨b, 0, xs.length, by rw [List.length_map], by rw [List.length_map]; exact Nat.le_refl _, fun j hj => ?_⟩
 rw [List.length_map] at hj
 rw [List.getElem_map]
 refine ⟨rfl, ?_⟩
 have := hc.get j (n64 xs[j]) (by rw [List.getElem?_map, List.getElem?_eq_getElem hj]; rfl)
 rw [Nat.zero_add, Nat.mul_one]
 rw [Nat.zero_add] at this
 exact ⟨this, trivial⟩
end Go.K
end

section
namespace Go.Proofs.YtijbhgiigddjdaaGreat.Pl
open Go.K Pg

end Go.Proofs.YtijbhgiigddjdaaGreat.Pl
end

section
namespace Go.Proofs.YtijbhgiigddjdaaGreat.Rd
open Go.K Pg Pl
open Go.ChangeShapes Go.WideShapes Go.ChangeAt Go.RowKit

section
variable {H : Type} {enc : TypeId × Value → H} {P : Program} {W : World} {base : Nat} {spare : Nat → Bool} {held : Bool}
end
end Go.Proofs.YtijbhgiigddjdaaGreat.Rd
end
