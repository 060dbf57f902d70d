/-
 A record is heard: the code. Conditions: each theorem's own.
-/
import Derived.Test.YtkdngpiiecmpgaaGreatQ24
namespace Go.Proofs.YtkdngpiiecmpgaaGreat.Ch
open Go Go.K Go.Proofs Go.Proofs.YtkdngpiiecmpgaaGreat Go.Proofs.YtkdngpiiecmpgaaGreat.Pg Go.Proofs.YtkdngpiiecmpgaaGreat.Rc
set_option linter.unusedVariables false
set_option linter.unusedSimpArgs false
set_option maxRecDepth 10000

def Heard (h : Base) (B b1 b2 : Nat) (s : St) (r : Recd) (u : Value) (h' : Base) (H' : List Asrt) : Prop :=
 h = h' ∧ ∃ ok m1 c1 m2 c2 nx, u = .bool ok ∧ H' = [mapA b1 .u32 m1 c1, mapA b2 .u32 m2 c2, stB B b1 b2 nx] ∧
  (ok = true → ∃ s', hearQ s r = some s' ∧ Rel m1 c1 m2 c2 s' ∧ nx = s'.next) ∧ (ok = false → hearQ s r = none)
theorem maxN (a b : Nat) : max (a : Int) (b : Int) = ((max a b : Nat) : Int) := by omega
structure TouS where
 j : Nat
 m : List ME
 c : Nat
theorem compl32 {n : Nat} (h : n < 4294967296) : bits .xor .u32 (if IntKind.u32.signed then -1 else IntKind.u32.max) (n : Int) = ((4294967295 - n : Nat) : Int) := by
 have e : bits .xor .u32 (if IntKind.u32.signed then -1 else IntKind.u32.max) (n : Int) = ((4294967295 ^^^ n : Nat) : Int) := bits_xor_u32 4294967295 n (by decide) h
 rw [e]
 have h1 : (BitVec.allOnes 32 ^^^ BitVec.ofNat 32 n).toNat = 4294967295 ^^^ n := by
  rw [BitVec.toNat_xor, BitVec.toNat_allOnes, BitVec.toNat_ofNat, Nat.mod_eq_of_lt h]
 have h2 : (~~~ BitVec.ofNat 32 n).toNat = 4294967295 - n := by
  rw [BitVec.toNat_not, BitVec.toNat_ofNat, Nat.mod_eq_of_lt h]
 rw [← h1, ← h2, BitVec.allOnes_xor]
theorem nxt32 {n : Nat} (h : n < 4294967296) : IntKind.u32.wrap ((n : Int) + min 1 ((4294967295 - n : Nat) : Int)) = ((if n < 4294967295 then n + 1 else n : Nat) : Int) := by
 rw [K.wu32]
 split <;> omega
set_option maxHeartbeats 8000000 in
theorem CHear (h : Base) (B b1 b2 : Nat) (m1 m2 : List ME) (c1 c2 : Nat) (s : St) (hs : Rel m1 c1 m2 c2 s) (cs : List Value) (r : Recd) (hx : RecC h cs r) (hsm : smallR r) :
  Tr Tryz.prog 30 [stP B, .agg cs.toArray] h [mapA b1 .u32 m1 c1, mapA b2 .u32 m2 c2, stB B b1 b2 s.next] (Heard h B b1 b2 s r) := by
 obtain ⟨hw, ad, ai, al, ay, cd, ci, cl, cy, rfl, hb, ⟨es, hi1, hi2, hi3⟩, hl4, hd2⟩ := hx.cells
 have hlk := hs.look r.txn
 have hlsn := hw.lsn
 have htx := hw.txn
 refine K.enter Tryz.func30 rfl (Nat.le_of_ble_eq_true rfl) (fun F => ?_)
 simp only [List.nil_append, List.cons_append]
 (repeat' (first | refine X.rq ?_ | (refine X.rc ?_ ?_ <;> intro hc <;> first | (exfalso; omega) | skip)))
 refine K.l_box rfl rfl rfl (fun B3 => ?_)
 (repeat' (first | refine X.rq ?_ | (refine X.rc ?_ ?_ <;> intro hc <;> first | (exfalso; omega) | skip)))
 obtain ⟨⟨wt, wl, wu, wo⟩, e1⟩ : ∃ w : PLive, w = (findK PLive.txn s.lives r.txn).getD ⟨0, 0, 0, false⟩ := ⟨_, rfl⟩
 obtain ⟨lv, e2⟩ : ∃ b : Bool, b = (findK PLive.txn s.lives r.txn).isSome := ⟨_, rfl⟩
 have hz1 : (K.look m1 (r.txn : Int)).getD (.agg #[.int .u32 0, .int .u64 0, .int .u64 0, .bool false]) = .agg #[.int .u32 wt, .int .u64 wl, .int .u64 wu, .bool wo] := by
  rw [hlk]
  show _ = Value.agg (cL ⟨wt, wl, wu, wo⟩).toArray
  rw [e1]
  cases findK PLive.txn s.lives r.txn <;> rfl
 have hz2 : (K.look m1 (r.txn : Int)).isSome = lv := by rw [e2]; exact hs.l.some_iff r.txn
 refine X.draw ([mapA b1 .u32 m1 c1, stB B b1 b2 s.next, blk B3 63 (cR r (.slice ad r.op.data.length cd) (.slice ai r.images.length ci) (.slice al r.lives.length cl) (.slice ay r.dirty.length cy))]) [] (.pu 0 (.pu 1 (.pu 2 (.pu 4 (.st 3 (.st 5 (.st 6 (.pu 7 (.pu 8 (.pu 9 (.on 10 (.on 11 (.pu 12 .nil))))))))))))) ?_
 refine K.d_pu rfl (fun _ _ => X.mv) rfl ?_
 refine K.d_pu rfl (fun _ _ => X.nc) rfl ?_
 refine K.d_pu rfl (fun _ _ => X.fa) rfl ?_
 refine K.d_pu rfl (fun _ _ => X.fa) rfl ?_
 refine K.d_st rfl X.ld rfl ?_
 refine K.d_st rfl X.ld rfl ?_
 refine K.d_st rfl (K.p_lookup 0 rfl rfl rfl rfl rfl rfl (v := .tuple #[.agg #[.int .u32 wt, .int .u64 wl, .int .u64 wu, .bool wo], .bool lv]) (by rw [← hz1, ← hz2]; rfl)) rfl ?_
 refine K.d_pu rfl (fun _ _ => X.mv) rfl ?_
 refine K.d_pu rfl (fun _ _ => X.ex) rfl ?_
 refine K.d_pu rfl (fun _ _ => X.ex) rfl ?_
 refine K.d_on rfl (fun KK hKK => ?_)
 refine K.l_alloc (Fx.zr rfl) rfl rfl (fun B5 => ?_)
 refine K.l_nil ?_
 refine X.onE hKK ?_
 refine K.d_on rfl (fun KK hKK => ?_)
 refine X.stw ?_
 simp only [List.set_cons_zero, List.set_cons_succ, List.eraseIdx_cons_zero, List.eraseIdx_cons_succ, List.cons_append, List.nil_append]
 refine K.l_nil ?_
 refine X.onE hKK ?_
 refine K.d_pu rfl (fun _ _ => X.sg) rfl ?_
 refine K.d_nil ?_
 have hgot : (lv = false ∧ findK PLive.txn s.lives r.txn = none) ∨ (lv = true ∧ findK PLive.txn s.lives r.txn = some ⟨wt, wl, wu, wo⟩ ∧ wl < 18446744073709551616 ∧ wu < 18446744073709551616 ∧ wt = r.txn) := by
  cases hf : findK PLive.txn s.lives r.txn with
  | none => rw [hf] at e2; exact .inl ⟨e2, rfl⟩
  | some x => rw [hf] at e1 e2; obtain rfl : PLive.mk wt wl wu wo = x := e1; have hg := hs.got hf; exact .inr ⟨e2, rfl, hg.1.last, hg.1.undo, hg.2⟩
 clear hz1 hz2 e1 e2 hKK
 by_cases hk8 : r.kind = 8
 ·have hq : hearQ s r = some s := by unfold hearQ; rw [if_pos hk8]
  rcases hgot with ⟨rfl, hf⟩ | ⟨rfl, hf, hlp, hup, ht1⟩
  all_goals
   (repeat' (first | refine X.rq ?_ | (refine X.rc ?_ ?_ <;> intro hc <;> first | (exfalso; omega) | skip)))
   refine K.AT.drop (K.AT.drop ?_)
   refine K.done (by first | exact Or.inl rfl | exact Or.inr rfl) rfl (by first | exact K.Base.le.refl _ | assumption) (H' := [mapA b1 .u32 m1 c1, mapA b2 .u32 m2 c2, stB B b1 b2 s.next]) rfl ⟨rfl, true, m1, c1, m2, c2, s.next, rfl, rfl, fun _ => ⟨s, hq, hs, rfl⟩, fun e => by cases e⟩
 by_cases hk4 : r.kind = 4
 ·have hq : hearQ s r = some { s with dirty := r.images.foldl (fun d x => touchQ d x.page r.lsn) s.dirty } := by unfold hearQ; rw [if_neg hk8, if_pos hk4]
  have hsm1 := hsm.1
  rcases hgot with ⟨rfl, hf⟩ | ⟨rfl, hf, hlp, hup, ht1⟩
  all_goals
   (repeat' (first | refine X.rq ?_ | (refine X.rc ?_ ?_ <;> intro hc <;> first | (exfalso; omega) | skip)))
   refine K.WC.drop ?_
   refine K.c_loop (σ := TouS) (fun q => [(0, stP B), (3, .pointer (some ⟨B3, 0, none⟩)), (62, .slice ai r.images.length ci), (63, .int .i64 r.images.length), (64, .int .i64 q.j)]) (fun _ => h)
    (fun q => blk B3 63 (cR r (.slice ad r.op.data.length cd) (.slice ai r.images.length ci) (.slice al r.lives.length cl) (.slice ay r.dirty.length cy)) :: mapA b1 .u32 m1 c1 :: mapA b2 .u32 q.m q.c :: stB B b1 b2 s.next :: F)
    (fun q => q.j ≤ r.images.length ∧ Rel m1 c1 q.m q.c { s with dirty := (r.images.take q.j).foldl (fun d x => touchQ d x.page r.lsn) s.dirty }) (fun q => r.images.length - q.j) ⟨0, m2, c2⟩ ⟨Nat.zero_le _, hs⟩ (by repeat (first | exact K.Sub.nil _ | refine K.Sub.cons rfl ?_)) rfl rfl ?_
   rintro ⟨j, mq, cq⟩ ⟨hj, hrel⟩ KL hKL
   dsimp only at hj hrel ⊢
   by_cases hjl : j < r.images.length
   ·have hc1 : es[j]? = some (es[j]'(by omega)) := List.getElem?_eq_getElem (by omega)
    have hc0 : es[((j : Nat) : Int).toNat]? = some (es[j]'(by omega)) := by rw [Int.toNat_natCast]; exact hc1
    have hx1 : r.images[j]? = some (r.images[j]'(by omega)) := List.getElem?_eq_getElem (by omega)
    generalize es[j]'(by omega) = c at hc0 hc1
    generalize r.images[j]'(by omega) = x at hx1
    obtain ⟨hpg, cs, rfl, hpc⟩ := hi3 j c x hc1 hx1
    have hnx : (r.images.take (j + 1)).foldl (fun d x => touchQ d x.page r.lsn) s.dirty = touchQ ((r.images.take j).foldl (fun d x => touchQ d x.page r.lsn) s.dirty) x.page r.lsn := by
     rw [List.take_add_one, hx1, List.foldl_append]; rfl
    obtain ⟨_, cv, rfl, es5, hv5, _⟩ := hpc
    obtain ⟨ao5, ca5, rfl⟩ := hv5.len
    have htou := Touch h B b1 b2 s.next x.page r.lsn mq cq hrel.ok2 hpg hlsn
    have hrel2 := hrel.touch x.page r.lsn hpg hlsn
    (repeat' (first | refine X.rq ?_ | (refine X.rc ?_ ?_ <;> intro hc <;> first | (exfalso; omega) | skip)))
    refine K.s_pureE (K.p_indexL hi1 (Fx.und rfl) (Fx.sz rfl) rfl rfl (by omega) hc0) rfl ?_
    rintro v2 ⟨b2', o2, rfl, hcel⟩
    refine K.s_pure (K.p_loadM (Fx.agg rfl) rfl (Cels.up hcel) (Fx.sz rfl) rfl) rfl ?_
    refine K.l_alloc (Fx.zr rfl) rfl rfl (fun B9 => ?_)
    refine X.stw ?_
    simp only [List.set_cons_zero, List.set_cons_succ, List.eraseIdx_cons_zero, List.eraseIdx_cons_succ, List.cons_append, List.nil_append]
    (repeat' (first | refine X.rq ?_ | (refine X.rc ?_ ?_ <;> intro hc <;> first | (exfalso; omega) | skip)))
    refine K.l_call (Fx.cal rfl) rfl htou (K.pp [3, 3] rfl) rfl ?_
    rintro u h' H' - ⟨rfl, rfl, rfl⟩
    simp only [List.cons_append, List.nil_append]
    (repeat' (first | refine X.rq ?_ | (refine X.rc ?_ ?_ <;> intro hc <;> first | (exfalso; omega) | skip)))
    refine K.AT.sel [2] rfl ?_
    refine K.AT.perm (K.pp [2, 2, 0, 0] rfl) ?_
    simp only [List.cons_append, List.nil_append]
    refine K.a_round hKL ⟨j + 1, tchM mq cq x.page r.lsn, tchC mq cq x.page⟩ ⟨by dsimp only; omega, by dsimp only; rw [hnx]; exact hrel2⟩ (by repeat (first | exact K.Sub.nil _ | refine K.Sub.cons rfl ?_)) rfl rfl (by dsimp only; omega)
   ·obtain rfl : j = r.images.length := by omega
    rw [List.take_length] at hrel
    (repeat' (first | refine X.rq ?_ | (refine X.rc ?_ ?_ <;> intro hc <;> first | (exfalso; omega) | skip)))
    refine K.AT.drop ?_
    refine K.done (by first | exact Or.inl rfl | exact Or.inr rfl) rfl (by first | exact K.Base.le.refl _ | assumption) (H' := [mapA b1 .u32 m1 c1, mapA b2 .u32 mq cq, stB B b1 b2 s.next]) rfl ⟨rfl, true, m1, c1, mq, cq, s.next, rfl, rfl, fun _ => ⟨_, hq, hrel, rfl⟩, fun e => by cases e⟩
 by_cases hk1 : r.kind = 1
 ·rcases hgot with ⟨rfl, hf⟩ | ⟨rfl, hf, hlp, hup, ht1⟩
  ·have hq : hearQ s r = some { s with lives := insK PLive.txn ⟨r.txn, r.lsn, 0, true⟩ s.lives, next := max s.next (if r.txn < 4294967295 then r.txn + 1 else r.txn) } := by
    unfold hearQ
    rw [if_neg hk8, if_neg hk4, if_pos hk1, hf]
    rfl
   (repeat' (first | refine X.rq ?_ | (refine X.rc ?_ ?_ <;> intro hc <;> first | (exfalso; omega) | skip)))
   refine X.draw ([mapA b1 .u32 m1 c1, stB B b1 b2 s.next, blk B3 63 (cR r (.slice ad r.op.data.length cd) (.slice ai r.images.length ci) (.slice al r.lives.length cl) (.slice ay r.dirty.length cy))]) [11] (.pu 0 (.pu 1 (.pu 2 (.pu 4 (.pu 6 (.pu 8 (.st 3 (.st 5 (.st 7 (.st 9 (.pu 10 (.cl 11 .nil)))))))))))) ?_
   refine K.d_pu rfl (fun _ _ => X.mv) rfl ?_
   refine K.d_pu rfl (fun _ _ => X.nc) rfl ?_
   refine K.d_pu rfl (fun _ _ => X.fa) rfl ?_
   refine K.d_pu rfl (fun _ _ => X.fa) rfl ?_
   refine K.d_pu rfl (fun _ _ => X.fa) rfl ?_
   refine K.d_pu rfl (fun _ _ => X.fa) rfl ?_
   refine K.d_st rfl X.ld rfl ?_
   refine K.d_st rfl X.ld rfl ?_
   refine K.d_st rfl X.ld rfl ?_
   refine K.d_st rfl X.ld rfl ?_
   refine K.d_pu rfl (fun _ _ => X.bd) rfl ?_
   refine K.d_cl rfl (fun KK hKK => ?_)
   refine K.l_update_at 2 rfl rfl rfl hs.ok1 rfl rfl rfl ?_
   simp only [List.set_cons_zero, List.set_cons_succ]
   refine K.l_nil ?_
   refine K.d_clE hKK ?_
   refine K.d_nil ?_
   have hrel := hs.put ⟨r.txn, r.lsn, 0, true⟩ ⟨htx, hlsn, (by decide : (0 : Nat) < 18446744073709551616)⟩
   (repeat' (first | refine X.rq ?_ | (refine X.rc ?_ ?_ <;> intro hc <;> first | (exfalso; omega) | skip)))
   refine X.draw ([stB B b1 b2 s.next, blk B3 63 (cR r (.slice ad r.op.data.length cd) (.slice ai r.images.length ci) (.slice al r.lives.length cl) (.slice ay r.dirty.length cy))]) [15] (.pu 0 (.pu 1 (.pu 2 (.pu 3 (.pu 5 (.pu 7 (.st 4 (.st 6 (.st 8 (.pu 9 (.pu 10 (.pu 11 (.pu 12 (.pu 13 (.pu 14 (.cl 15 .nil)))))))))))))))) ?_
   refine K.d_pu rfl (fun _ _ => X.mv) rfl ?_
   refine K.d_pu rfl (fun _ _ => X.mv) rfl ?_
   refine K.d_pu rfl (fun _ _ => X.nc) rfl ?_
   refine K.d_pu rfl (fun _ _ => X.fa) rfl ?_
   refine K.d_pu rfl (fun _ _ => X.fa) rfl ?_
   refine K.d_pu rfl (fun _ _ => X.fa) rfl ?_
   refine K.d_st rfl X.ld rfl ?_
   refine K.d_st rfl X.ld rfl ?_
   refine K.d_st rfl X.ld rfl ?_
   refine K.d_pu rfl (fun _ _ => K.p_compl rfl (compl32 htx)) rfl ?_
   refine K.d_pu rfl (fun _ _ => X.mn) rfl ?_
   refine K.d_pu rfl (fun _ _ => K.p_add rfl rfl (nxt32 htx)) rfl ?_
   refine K.d_pu rfl (fun _ _ => K.p_max rfl rfl (maxN ..)) rfl ?_
   refine K.d_pu rfl (fun _ _ => X.nc) rfl ?_
   refine K.d_pu rfl (fun _ _ => X.fa) rfl ?_
   refine K.d_cl rfl (fun KK hKK => ?_)
   refine X.sto ?_
   simp only [List.set_cons_zero, List.set_cons_succ, List.eraseIdx_cons_zero, List.eraseIdx_cons_succ, List.cons_append, List.nil_append]
   refine K.l_nil ?_
   refine K.d_clE hKK ?_
   refine K.d_nil ?_
   (repeat' (first | refine X.rq ?_ | (refine X.rc ?_ ?_ <;> intro hc <;> first | (exfalso; omega) | skip)))
   refine K.AT.drop (K.AT.drop ?_)
   refine K.done (by first | exact Or.inl rfl | exact Or.inr rfl) rfl (by first | exact K.Base.le.refl _ | assumption) (H' := [_, mapA b2 .u32 m2 c2, stB B b1 b2 (max s.next (if r.txn < 4294967295 then r.txn + 1 else r.txn))]) rfl ⟨rfl, true, _, _, m2, c2, _, rfl, rfl, fun _ => ⟨_, hq, hrel.next _ (by have := hs.wn; show max s.next _ < 4294967296; split <;> omega), rfl⟩, fun e => by cases e⟩
  ·have hq : hearQ s r = none := by
    unfold hearQ
    rw [if_neg hk8, if_neg hk4, if_pos hk1, hf]
    rfl
   (repeat' (first | refine X.rq ?_ | (refine X.rc ?_ ?_ <;> intro hc <;> first | (exfalso; omega) | skip)))
   refine K.AT.drop (K.AT.drop ?_)
   refine K.done (by first | exact Or.inl rfl | exact Or.inr rfl) rfl (by first | exact K.Base.le.refl _ | assumption) (H' := [mapA b1 .u32 m1 c1, mapA b2 .u32 m2 c2, stB B b1 b2 s.next]) rfl ⟨rfl, false, m1, c1, m2, c2, s.next, rfl, rfl, (fun e => by cases e), fun _ => hq⟩
 by_cases hk7 : r.kind = 7
 ·rcases hgot with ⟨rfl, hf⟩ | ⟨rfl, hf, hlp, hup, ht1⟩
  ·have hq : hearQ s r = none := by
    unfold hearQ
    rw [if_neg hk8, if_neg hk4, if_neg hk1, hf]
   (repeat' (first | refine X.rq ?_ | (refine X.rc ?_ ?_ <;> intro hc <;> first | (exfalso; omega) | skip)))
   refine X.draw ([stB B b1 b2 s.next, blk B3 63 (cR r (.slice ad r.op.data.length cd) (.slice ai r.images.length ci) (.slice al r.lives.length cl) (.slice ay r.dirty.length cy))]) [6] (.pu 0 (.pu 1 (.pu 2 (.pu 4 (.st 3 (.st 5 (.cl 6 .nil))))))) ?_
   refine K.d_pu rfl (fun _ _ => X.mv) rfl ?_
   refine K.d_pu rfl (fun _ _ => X.nc) rfl ?_
   refine K.d_pu rfl (fun _ _ => X.fa) rfl ?_
   refine K.d_pu rfl (fun _ _ => X.fa) rfl ?_
   refine K.d_st rfl X.ld rfl ?_
   refine K.d_st rfl X.ld rfl ?_
   refine K.d_cl rfl (fun KK hKK => ?_)
   refine K.l_delete_at 2 rfl rfl rfl rfl hs.ok1 rfl rfl ?_
   simp only [List.set_cons_zero, List.set_cons_succ]
   refine K.l_nil ?_
   refine K.d_clE hKK ?_
   refine K.d_nil ?_
   (repeat' (first | refine X.rq ?_ | (refine X.rc ?_ ?_ <;> intro hc <;> first | (exfalso; omega) | skip)))
   refine K.AT.drop (K.AT.drop ?_)
   refine K.done (by first | exact Or.inl rfl | exact Or.inr rfl) rfl (by first | exact K.Base.le.refl _ | assumption) (H' := [_, mapA b2 .u32 m2 c2, stB B b1 b2 s.next]) rfl ⟨rfl, false, _, _, m2, c2, s.next, rfl, rfl, (fun e => by cases e), fun _ => hq⟩
  ·have hq : hearQ s r = if wl ≠ r.prev then none else if wu = 0 then some { s with lives := delK PLive.txn s.lives r.txn } else none := by
    unfold hearQ
    rw [if_neg hk8, if_neg hk4, if_neg hk1, hf]
    dsimp only
    rw [if_pos hk7]
   have hrel := hs.del r.txn
   have hrp := hw.prev
   (repeat' (first | refine X.rq ?_ | (refine X.rc ?_ ?_ <;> intro hc <;> first | (exfalso; omega) | skip)))
   refine X.draw ([stB B b1 b2 s.next, blk B3 63 (cR r (.slice ad r.op.data.length cd) (.slice ai r.images.length ci) (.slice al r.lives.length cl) (.slice ay r.dirty.length cy))]) [6] (.pu 0 (.pu 1 (.pu 2 (.pu 4 (.st 3 (.st 5 (.cl 6 .nil))))))) ?_
   refine K.d_pu rfl (fun _ _ => X.mv) rfl ?_
   refine K.d_pu rfl (fun _ _ => X.nc) rfl ?_
   refine K.d_pu rfl (fun _ _ => X.fa) rfl ?_
   refine K.d_pu rfl (fun _ _ => X.fa) rfl ?_
   refine K.d_st rfl X.ld rfl ?_
   refine K.d_st rfl X.ld rfl ?_
   refine K.d_cl rfl (fun KK hKK => ?_)
   refine K.l_delete_at 2 rfl rfl rfl rfl hs.ok1 rfl rfl ?_
   simp only [List.set_cons_zero, List.set_cons_succ]
   refine K.l_nil ?_
   refine K.d_clE hKK ?_
   refine K.d_nil ?_
   by_cases hfol : wl = r.prev
   ·rw [if_neg (fun e => e hfol)] at hq
    (repeat' (first | refine X.rq ?_ | (refine X.rc ?_ ?_ <;> intro hc <;> first | (exfalso; omega) | skip)))
    refine K.AT.drop (K.AT.drop ?_)
    refine K.done (by first | exact Or.inl rfl | exact Or.inr rfl) rfl (by first | exact K.Base.le.refl _ | assumption) (H' := [_, mapA b2 .u32 m2 c2, stB B b1 b2 s.next]) rfl ⟨rfl, decide ((wu : Int) = 0), _, _, m2, c2, s.next, rfl, rfl, (fun e => ⟨_, by rw [hq, if_pos (by have := of_decide_eq_true e; omega)], hrel, rfl⟩), fun e => by rw [hq, if_neg (by have := of_decide_eq_false e; omega)]⟩
   ·rw [if_pos hfol] at hq
    (repeat' (first | refine X.rq ?_ | (refine X.rc ?_ ?_ <;> intro hc <;> first | (exfalso; omega) | skip)))
    refine K.AT.drop (K.AT.drop ?_)
    refine K.done (by first | exact Or.inl rfl | exact Or.inr rfl) rfl (by first | exact K.Base.le.refl _ | assumption) (H' := [_, mapA b2 .u32 m2 c2, stB B b1 b2 s.next]) rfl ⟨rfl, false, _, _, m2, c2, s.next, rfl, rfl, (fun e => by cases e), fun _ => hq⟩
 have hpg := hw.page
 have hru := hw.undo
 have hrp := hw.prev
 rcases hgot with ⟨rfl, hf⟩ | ⟨rfl, hf, hlp, hup, ht1⟩
 ·have hq0 : hearQ s r = none := by unfold hearQ; rw [if_neg hk8, if_neg hk4, if_neg hk1, hf]
  (repeat' (first | refine X.rq ?_ | (refine X.rc ?_ ?_ <;> intro hc <;> first | (exfalso; omega) | skip)))
  refine K.AT.drop (K.AT.drop ?_)
  refine K.done (by first | exact Or.inl rfl | exact Or.inr rfl) rfl (by first | exact K.Base.le.refl _ | assumption) (H' := [mapA b1 .u32 m1 c1, mapA b2 .u32 m2 c2, stB B b1 b2 s.next]) rfl ⟨rfl, false, m1, c1, m2, c2, s.next, rfl, rfl, (fun e => by cases e), fun _ => hq0⟩
 subst ht1
 have hq0 : hearQ s r = if wl ≠ r.prev then none else if wo = false then none else if r.kind = 2 then some { s with lives := insK PLive.txn ⟨r.txn, r.lsn, r.lsn, wo⟩ s.lives, dirty := touchQ s.dirty r.page r.lsn } else if r.kind = 3 then if wu ≤ r.undo then none else some { s with lives := insK PLive.txn ⟨r.txn, r.lsn, r.undo, wo⟩ s.lives, dirty := touchQ s.dirty r.page r.lsn } else if r.kind = 5 then some { s with lives := insK PLive.txn ⟨r.txn, r.lsn, 0, false⟩ s.lives } else some { s with lives := insK PLive.txn ⟨r.txn, r.lsn, wu, wo⟩ s.lives } := by
  unfold hearQ
  rw [if_neg hk8, if_neg hk4, if_neg hk1, hf]
  dsimp only
  rw [if_neg hk7]
 clear hf
 by_cases hfol : wl ≠ r.prev
 ·rw [if_pos hfol] at hq0
  (repeat' (first | refine X.rq ?_ | (refine X.rc ?_ ?_ <;> intro hc <;> first | (exfalso; omega) | skip)))
  refine K.AT.drop (K.AT.drop ?_)
  refine K.done (by first | exact Or.inl rfl | exact Or.inr rfl) rfl (by first | exact K.Base.le.refl _ | assumption) (H' := [mapA b1 .u32 m1 c1, mapA b2 .u32 m2 c2, stB B b1 b2 s.next]) rfl ⟨rfl, false, m1, c1, m2, c2, s.next, rfl, rfl, (fun e => by cases e), fun _ => hq0⟩
 rw [if_neg hfol] at hq0
 have hfol : wl = r.prev := Classical.not_not.1 hfol
 cases wo with
 | false =>
  rw [if_pos rfl] at hq0
  (repeat' (first | refine X.rq ?_ | (refine X.rc ?_ ?_ <;> intro hc <;> first | (exfalso; omega) | skip)))
  refine K.AT.drop (K.AT.drop ?_)
  refine K.done (by first | exact Or.inl rfl | exact Or.inr rfl) rfl (by first | exact K.Base.le.refl _ | assumption) (H' := [mapA b1 .u32 m1 c1, mapA b2 .u32 m2 c2, stB B b1 b2 s.next]) rfl ⟨rfl, false, m1, c1, m2, c2, s.next, rfl, rfl, (fun e => by cases e), fun _ => hq0⟩
 | true =>
  rw [if_neg (by decide)] at hq0
  by_cases hk2 : r.kind = 2
  ·rw [if_pos hk2] at hq0
   (repeat' (first | refine X.rq ?_ | (refine X.rc ?_ ?_ <;> intro hc <;> first | (exfalso; omega) | skip)))
   refine X.sto ?_
   simp only [List.set_cons_zero, List.set_cons_succ, List.eraseIdx_cons_zero, List.eraseIdx_cons_succ, List.cons_append, List.nil_append]
   (repeat' (first | refine X.rq ?_ | (refine X.rc ?_ ?_ <;> intro hc <;> first | (exfalso; omega) | skip)))
   refine X.sto ?_
   simp only [List.set_cons_zero, List.set_cons_succ, List.eraseIdx_cons_zero, List.eraseIdx_cons_succ, List.cons_append, List.nil_append]
   (repeat' (first | refine X.rq ?_ | (refine X.rc ?_ ?_ <;> intro hc <;> first | (exfalso; omega) | skip)))
   refine K.l_call (Fx.cal rfl) rfl (Touch h B b1 b2 s.next r.page r.lsn m2 c2 hs.ok2 hpg hlsn) (K.pp [3, 3] rfl) rfl ?_
   rintro u h' H' - ⟨rfl, rfl, rfl⟩
   simp only [List.cons_append, List.nil_append]
   (repeat' (first | refine X.rq ?_ | (refine X.rc ?_ ?_ <;> intro hc <;> first | (exfalso; omega) | skip)))
   refine X.draw ([stB B b1 b2 s.next, blk B3 63 (cR r (.slice ad r.op.data.length cd) (.slice ai r.images.length ci) (.slice al r.lives.length cl) (.slice ay r.dirty.length cy)), blk B5 38 [.int .u32 r.txn, .int .u64 r.lsn, .int .u64 r.lsn, .bool true]]) [7] (.pu 0 (.pu 1 (.pu 2 (.pu 4 (.st 3 (.st 5 (.st 6 (.cl 7 .nil)))))))) ?_
   refine K.d_pu rfl (fun _ _ => X.mv) rfl ?_
   refine K.d_pu rfl (fun _ _ => X.nc) rfl ?_
   refine K.d_pu rfl (fun _ _ => X.fa) rfl ?_
   refine K.d_pu rfl (fun _ _ => X.fa) rfl ?_
   refine K.d_st rfl X.ld rfl ?_
   refine K.d_st rfl X.ld rfl ?_
   refine K.d_st rfl X.ld rfl ?_
   refine K.d_cl rfl (fun KK hKK => ?_)
   refine K.l_update_at 4 rfl rfl rfl hs.ok1 rfl rfl rfl ?_
   simp only [List.set_cons_zero, List.set_cons_succ]
   refine K.l_nil ?_
   refine K.d_clE hKK ?_
   refine K.d_nil ?_
   have hrel := (hs.touch r.page r.lsn hpg hlsn).put ⟨r.txn, r.lsn, r.lsn, true⟩ ⟨htx, hlsn, hlsn⟩
   (repeat' (first | refine X.rq ?_ | (refine X.rc ?_ ?_ <;> intro hc <;> first | (exfalso; omega) | skip)))
   refine K.AT.sel [2, 2] rfl ?_
   refine K.AT.perm (K.pp [2, 0, 0] rfl) ?_
   simp only [List.cons_append, List.nil_append]
   refine K.done (by first | exact Or.inl rfl | exact Or.inr rfl) rfl (by first | exact K.Base.le.refl _ | assumption) (H' := [_, mapA b2 .u32 (tchM m2 c2 r.page r.lsn) (tchC m2 c2 r.page), stB B b1 b2 s.next]) rfl ⟨rfl, true, _, _, _, _, s.next, rfl, rfl, (fun _ => ⟨_, hq0, hrel, rfl⟩), fun e => by cases e⟩
  rw [if_neg hk2] at hq0
  by_cases hk3 : r.kind = 3
  ·rw [if_pos hk3] at hq0
   by_cases hu : wu ≤ r.undo
   ·rw [if_pos hu] at hq0
    (repeat' (first | refine X.rq ?_ | (refine X.rc ?_ ?_ <;> intro hc <;> first | (exfalso; omega) | skip)))
    refine K.AT.drop (K.AT.drop ?_)
    refine K.done (by first | exact Or.inl rfl | exact Or.inr rfl) rfl (by first | exact K.Base.le.refl _ | assumption) (H' := [mapA b1 .u32 m1 c1, mapA b2 .u32 m2 c2, stB B b1 b2 s.next]) rfl ⟨rfl, false, m1, c1, m2, c2, s.next, rfl, rfl, (fun e => by cases e), fun _ => hq0⟩
   rw [if_neg hu] at hq0
   (repeat' (first | refine X.rq ?_ | (refine X.rc ?_ ?_ <;> intro hc <;> first | (exfalso; omega) | skip)))
   refine X.sto ?_
   simp only [List.set_cons_zero, List.set_cons_succ, List.eraseIdx_cons_zero, List.eraseIdx_cons_succ, List.cons_append, List.nil_append]
   (repeat' (first | refine X.rq ?_ | (refine X.rc ?_ ?_ <;> intro hc <;> first | (exfalso; omega) | skip)))
   refine X.sto ?_
   simp only [List.set_cons_zero, List.set_cons_succ, List.eraseIdx_cons_zero, List.eraseIdx_cons_succ, List.cons_append, List.nil_append]
   (repeat' (first | refine X.rq ?_ | (refine X.rc ?_ ?_ <;> intro hc <;> first | (exfalso; omega) | skip)))
   refine K.l_call (Fx.cal rfl) rfl (Touch h B b1 b2 s.next r.page r.lsn m2 c2 hs.ok2 hpg hlsn) (K.pp [3, 3] rfl) rfl ?_
   rintro u h' H' - ⟨rfl, rfl, rfl⟩
   simp only [List.cons_append, List.nil_append]
   (repeat' (first | refine X.rq ?_ | (refine X.rc ?_ ?_ <;> intro hc <;> first | (exfalso; omega) | skip)))
   refine X.draw ([stB B b1 b2 s.next, blk B3 63 (cR r (.slice ad r.op.data.length cd) (.slice ai r.images.length ci) (.slice al r.lives.length cl) (.slice ay r.dirty.length cy)), blk B5 38 [.int .u32 r.txn, .int .u64 r.lsn, .int .u64 r.undo, .bool true]]) [7] (.pu 0 (.pu 1 (.pu 2 (.pu 4 (.st 3 (.st 5 (.st 6 (.cl 7 .nil)))))))) ?_
   refine K.d_pu rfl (fun _ _ => X.mv) rfl ?_
   refine K.d_pu rfl (fun _ _ => X.nc) rfl ?_
   refine K.d_pu rfl (fun _ _ => X.fa) rfl ?_
   refine K.d_pu rfl (fun _ _ => X.fa) rfl ?_
   refine K.d_st rfl X.ld rfl ?_
   refine K.d_st rfl X.ld rfl ?_
   refine K.d_st rfl X.ld rfl ?_
   refine K.d_cl rfl (fun KK hKK => ?_)
   refine K.l_update_at 4 rfl rfl rfl hs.ok1 rfl rfl rfl ?_
   simp only [List.set_cons_zero, List.set_cons_succ]
   refine K.l_nil ?_
   refine K.d_clE hKK ?_
   refine K.d_nil ?_
   have hrel := (hs.touch r.page r.lsn hpg hlsn).put ⟨r.txn, r.lsn, r.undo, true⟩ ⟨htx, hlsn, hru⟩
   (repeat' (first | refine X.rq ?_ | (refine X.rc ?_ ?_ <;> intro hc <;> first | (exfalso; omega) | skip)))
   refine K.AT.sel [2, 2] rfl ?_
   refine K.AT.perm (K.pp [2, 0, 0] rfl) ?_
   simp only [List.cons_append, List.nil_append]
   refine K.done (by first | exact Or.inl rfl | exact Or.inr rfl) rfl (by first | exact K.Base.le.refl _ | assumption) (H' := [_, mapA b2 .u32 (tchM m2 c2 r.page r.lsn) (tchC m2 c2 r.page), stB B b1 b2 s.next]) rfl ⟨rfl, true, _, _, _, _, s.next, rfl, rfl, (fun _ => ⟨_, hq0, hrel, rfl⟩), fun e => by cases e⟩
  rw [if_neg hk3] at hq0
  by_cases hk5 : r.kind = 5
  ·rw [if_pos hk5] at hq0
   (repeat' (first | refine X.rq ?_ | (refine X.rc ?_ ?_ <;> intro hc <;> first | (exfalso; omega) | skip)))
   refine X.sto ?_
   simp only [List.set_cons_zero, List.set_cons_succ, List.eraseIdx_cons_zero, List.eraseIdx_cons_succ, List.cons_append, List.nil_append]
   (repeat' (first | refine X.rq ?_ | (refine X.rc ?_ ?_ <;> intro hc <;> first | (exfalso; omega) | skip)))
   refine X.sto ?_
   simp only [List.set_cons_zero, List.set_cons_succ, List.eraseIdx_cons_zero, List.eraseIdx_cons_succ, List.cons_append, List.nil_append]
   (repeat' (first | refine X.rq ?_ | (refine X.rc ?_ ?_ <;> intro hc <;> first | (exfalso; omega) | skip)))
   refine X.sto ?_
   simp only [List.set_cons_zero, List.set_cons_succ, List.eraseIdx_cons_zero, List.eraseIdx_cons_succ, List.cons_append, List.nil_append]
   (repeat' (first | refine X.rq ?_ | (refine X.rc ?_ ?_ <;> intro hc <;> first | (exfalso; omega) | skip)))
   refine X.draw ([stB B b1 b2 s.next, blk B3 63 (cR r (.slice ad r.op.data.length cd) (.slice ai r.images.length ci) (.slice al r.lives.length cl) (.slice ay r.dirty.length cy)), blk B5 38 [.int .u32 r.txn, .int .u64 r.lsn, .int .u64 0, .bool false]]) [7] (.pu 0 (.pu 1 (.pu 2 (.pu 4 (.st 3 (.st 5 (.st 6 (.cl 7 .nil)))))))) ?_
   refine K.d_pu rfl (fun _ _ => X.mv) rfl ?_
   refine K.d_pu rfl (fun _ _ => X.nc) rfl ?_
   refine K.d_pu rfl (fun _ _ => X.fa) rfl ?_
   refine K.d_pu rfl (fun _ _ => X.fa) rfl ?_
   refine K.d_st rfl X.ld rfl ?_
   refine K.d_st rfl X.ld rfl ?_
   refine K.d_st rfl X.ld rfl ?_
   refine K.d_cl rfl (fun KK hKK => ?_)
   refine K.l_update_at 2 rfl rfl rfl hs.ok1 rfl rfl rfl ?_
   simp only [List.set_cons_zero, List.set_cons_succ]
   refine K.l_nil ?_
   refine K.d_clE hKK ?_
   refine K.d_nil ?_
   have hrel := hs.put ⟨r.txn, r.lsn, 0, false⟩ ⟨htx, hlsn, (by decide : (0 : Nat) < 18446744073709551616)⟩
   (repeat' (first | refine X.rq ?_ | (refine X.rc ?_ ?_ <;> intro hc <;> first | (exfalso; omega) | skip)))
   refine K.AT.drop (K.AT.drop ?_)
   refine K.done (by first | exact Or.inl rfl | exact Or.inr rfl) rfl (by first | exact K.Base.le.refl _ | assumption) (H' := [_, mapA b2 .u32 m2 c2, stB B b1 b2 s.next]) rfl ⟨rfl, true, _, _, _, _, s.next, rfl, rfl, (fun _ => ⟨_, hq0, hrel, rfl⟩), fun e => by cases e⟩
  rw [if_neg hk5] at hq0
  (repeat' (first | refine X.rq ?_ | (refine X.rc ?_ ?_ <;> intro hc <;> first | (exfalso; omega) | skip)))
  refine X.sto ?_
  simp only [List.set_cons_zero, List.set_cons_succ, List.eraseIdx_cons_zero, List.eraseIdx_cons_succ, List.cons_append, List.nil_append]
  (repeat' (first | refine X.rq ?_ | (refine X.rc ?_ ?_ <;> intro hc <;> first | (exfalso; omega) | skip)))
  refine X.draw ([stB B b1 b2 s.next, blk B3 63 (cR r (.slice ad r.op.data.length cd) (.slice ai r.images.length ci) (.slice al r.lives.length cl) (.slice ay r.dirty.length cy)), blk B5 38 [.int .u32 r.txn, .int .u64 r.lsn, .int .u64 wu, .bool true]]) [7] (.pu 0 (.pu 1 (.pu 2 (.pu 4 (.st 3 (.st 5 (.st 6 (.cl 7 .nil)))))))) ?_
  refine K.d_pu rfl (fun _ _ => X.mv) rfl ?_
  refine K.d_pu rfl (fun _ _ => X.nc) rfl ?_
  refine K.d_pu rfl (fun _ _ => X.fa) rfl ?_
  refine K.d_pu rfl (fun _ _ => X.fa) rfl ?_
  refine K.d_st rfl X.ld rfl ?_
  refine K.d_st rfl X.ld rfl ?_
  refine K.d_st rfl X.ld rfl ?_
  refine K.d_cl rfl (fun KK hKK => ?_)
  refine K.l_update_at 2 rfl rfl rfl hs.ok1 rfl rfl rfl ?_
  simp only [List.set_cons_zero, List.set_cons_succ]
  refine K.l_nil ?_
  refine K.d_clE hKK ?_
  refine K.d_nil ?_
  have hrel := hs.put ⟨r.txn, r.lsn, wu, true⟩ ⟨htx, hlsn, hup⟩
  (repeat' (first | refine X.rq ?_ | (refine X.rc ?_ ?_ <;> intro hc <;> first | (exfalso; omega) | skip)))
  refine K.AT.drop (K.AT.drop ?_)
  refine K.done (by first | exact Or.inl rfl | exact Or.inr rfl) rfl (by first | exact K.Base.le.refl _ | assumption) (H' := [_, mapA b2 .u32 m2 c2, stB B b1 b2 s.next]) rfl ⟨rfl, true, _, _, _, _, s.next, rfl, rfl, (fun _ => ⟨_, hq0, hrel, rfl⟩), fun e => by cases e⟩
end Go.Proofs.YtkdngpiiecmpgaaGreat.Ch
