/-
 The law: acts on the log and on the document. Conditions: each theorem's own.
-/
import Derived.Test.YtmcdaegaopfihaaGreatZ45
namespace Go.Proofs.YtmcdaegaopfihaaGreat.Wl
open Go Go.K Go.Proofs Go.Proofs.YtmcdaegaopfihaaGreat Go.Proofs.YtmcdaegaopfihaaGreat.Pg Go.Proofs.YtmcdaegaopfihaaGreat.Ra Go.Proofs.YtmcdaegaopfihaaGreat.Cc Go.Proofs.YtmcdaegaopfihaaGreat.Rc
set_option linter.unusedVariables false
set_option linter.unusedSimpArgs false
set_option maxRecDepth 10000

set_option maxHeartbeats 8000000 in
theorem DoesFlush (h : Base) (s p d : Nat) (M : SM) (W : LM) (Dm : DM) (D : Dk) (L : Lg) (rs : List Recd) (m : Nat) (hp : PlayX h M W D L rs m) (cs : List Value) (n : Int) (hx : ∃ r, RecC h cs r) :
  Tr Tryz.prog 28 [pv s, pv p, .agg (Value.int .i64 1 :: (cs ++ [.int .i64 n])).toArray] h (playA s p d M W Dm D L rs) (DoesR s p d D L) := by
 obtain ⟨r, hx⟩ := hx
 obtain ⟨hrun, hon, hes, hst⟩ := hp
 have ho := hrun.lgOk
 obtain ⟨f1, f2, f3, f4⟩ := flush_run hrun
 obtain ⟨f5, f6⟩ := f1.on hon
 dsimp only at f5 f6
 rcases f4 with ⟨-, f7, f8⟩ | ⟨f7, -⟩
 rotate_left
 ·exfalso; omega
 have hfl := Flush h p d W L Dm D ho hst hrun.ok (by rw [hrun.cache]; decide)
 rw [f5, f7] at hfl
 generalize (flushQ L D).2.2 = D2 at f2 f3 f6 f8 hfl
 have hen := SEndA h s M L rs hes ho
 unfold stA at hen
 unfold lgA dkA at hfl
 obtain ⟨ad, ai, al, ay, cd, ci, cl, cy, rfl⟩ := recc_cR hx
 refine K.enter Tryz.func28 rfl (Nat.le_of_ble_eq_true rfl) (fun F => ?_)
 unfold playA stA lgA dkA
 simp only [List.cons_append, List.nil_append]
 (repeat' first | refine X.rq ?_ | refine X.rc ?_ ?_ <;> intro hc <;> try omega)
 refine K.l_box rfl rfl rfl (fun B5 => ?_)
 (repeat' first | refine X.rq ?_ | refine X.rc ?_ ?_ <;> intro hc <;> try omega)
 refine K.l_callV (Fx.cal rfl) rfl hen (K.pp [1, 1, 1, 1] rfl) rfl rfl ?_
 unfold stV
 simp only [Go.K.nmz]
 (repeat' first | refine X.rq ?_ | refine X.rc ?_ ?_ <;> intro hc <;> try omega)
 refine X.sto ?_
 simp only [Go.K.nmz]
 (repeat' first | refine X.rq ?_ | refine X.rc ?_ ?_ <;> intro hc <;> try omega)
 refine K.l_call (Fx.cal rfl) rfl hfl (K.pp [5, 5, 5, 5, 5, 5] rfl) rfl ?_
 rintro u h2 H' le2 ⟨rfl, M2, rfl⟩
 simp only [Go.K.nmz]
 (repeat' first | refine X.rq ?_ | refine X.rc ?_ ?_ <;> intro hc <;> try omega)
 refine K.AT.perm (K.pp [10, 6, 6, 6, 6] rfl) ?_
 exact K.doneC (vs := [.bool true]) (by first | exact Or.inl rfl | exact Or.inr rfl) (.tmp rfl .nil) le2 (D := [_]) (H' := [_, _, _, _, _, _, _, _, _, _]) rfl ⟨rfl, M, W, M2, D2, _, rs, rs.length, ⟨f8, f6, rows_le hes le2, hst.le le2⟩, f2, rfl, rfl⟩
set_option maxHeartbeats 8000000 in
theorem DoesReset (h : Base) (s p d : Nat) (M : SM) (W : LM) (Dm : DM) (D : Dk) (L : Lg) (rs : List Recd) (m : Nat) (hp : PlayX h M W D L rs m) (cs : List Value) (n : Int) (hx : ∃ r, RecC h cs r) (hn : in64 n) :
  Tr Tryz.prog 28 [pv s, pv p, .agg (Value.int .i64 3 :: (cs ++ [.int .i64 n])).toArray] h (playA s p d M W Dm D L rs) (DoesR s p d D L) := by
 obtain ⟨r, hx⟩ := hx
 obtain ⟨hrun, hon, hes, hst⟩ := hp
 have ho := hrun.lgOk
 obtain ⟨kp, hkp, hkl⟩ : ∃ kp : Nat, IntKind.u32.wrap n = (kp : Int) ∧ kp < 4294967296 := by
  refine ⟨(IntKind.u32.wrap n).toNat, ?_, ?_⟩ <;> (unfold IntKind.wrap; simp [IntKind.bits, IntKind.signed]; omega)
 obtain ⟨f1, f2, f3, f4⟩ := reset_run hrun hkl
 obtain ⟨f5, f6⟩ := f1.on hon
 dsimp only at f5 f6
 rcases f4 with ⟨-, f7, f8⟩ | ⟨f7, -⟩
 rotate_left
 ·exfalso; omega
 have hre := Reset h p d W L kp Dm D ho hst hkl hrun.ok (by rw [hrun.cache]; decide)
 rw [f5, f7] at hre
 generalize (resetQ L kp D).2.2 = D2 at f2 f3 f6 f8 hre
 have hen := SEndA h s M L rs hes ho
 unfold stA at hen
 unfold lgA dkA at hre
 obtain ⟨ad, ai, al, ay, cd, ci, cl, cy, rfl⟩ := recc_cR hx
 refine K.enter Tryz.func28 rfl (Nat.le_of_ble_eq_true rfl) (fun F => ?_)
 unfold playA stA lgA dkA
 simp only [List.cons_append, List.nil_append]
 (repeat' first | refine X.rq ?_ | refine X.rc ?_ ?_ <;> intro hc <;> try omega)
 refine K.l_box rfl rfl rfl (fun B5 => ?_)
 (repeat' first | refine X.rq ?_ | refine X.rc ?_ ?_ <;> intro hc <;> try omega)
 refine X.draw ([blk B5 47 (.int .i64 3 :: (cR r (.slice ad r.op.data.length cd) (.slice ai r.images.length ci) (.slice al r.lives.length cl) (.slice ay r.dirty.length cy) ++ [.int .i64 n]))]) [] (.pu 0 (.pu 1 (.pu 2 (.pu 3 (.pu 4 (.pu 6 (.pu 9 (.st 7 (.pu 8 (.on 5 (.on 10 (.pu 11 (.pu 12 (.on 13 (.pu 14 (.pu 15 (.on 16 (.pu 17 (.pu 18 (.on 19 (.pu 20 (.pu 21 (.on 22 .nil))))))))))))))))))))))) ?_ (hQ := by repeat (first | with_reducible refine K.NoPanic.then ?_ | with_reducible refine K.NoPanic.inBlock ?_ | with_reducible exact K.post_noPanic _ _ | exact K.post_noPanic _ _ | exact K.QN_noPanic | exact K.postS_noPanic | exact K.postX_noPanic | exact K.RPX_noPanic))
 refine K.d_pu rfl (fun _ _ => X.mv) rfl ?_
 refine K.d_pu rfl (fun _ _ => X.mv) rfl ?_
 refine K.d_pu rfl (fun _ _ => X.mv) rfl ?_
 refine K.d_pu rfl (fun _ _ => X.mv) rfl ?_
 refine K.d_pu rfl (fun _ _ => X.mv) rfl ?_
 refine K.d_pu rfl (fun _ _ => X.fa) rfl ?_
 refine K.d_pu rfl (fun _ _ => X.mv) rfl ?_
 refine K.d_st rfl X.ld rfl ?_
 refine K.d_pu rfl (fun _ _ => X.cv) rfl ?_
 rw [hkp]
 refine K.d_on rfl (fun KK hKK => ?_)
 refine K.l_callV (Fx.cal rfl) rfl hen (K.pp [1, 1, 1, 1] rfl) rfl rfl ?_
 unfold stV
 simp only [Go.K.nmz]
 refine K.l_nil ?_
 refine X.onE hKK ?_
 refine K.d_on rfl (fun KK hKK => ?_)
 refine K.l_callV (Fx.cal rfl) rfl hen (K.pp [0, 0, 0, 0] rfl) rfl rfl ?_
 unfold stV
 simp only [Go.K.nmz]
 refine K.l_nil ?_
 refine X.onE hKK ?_
 refine K.d_pu rfl (fun _ _ => X.nc) rfl ?_
 refine K.d_pu rfl (fun _ _ => X.fa) rfl ?_
 refine K.d_on rfl (fun KK hKK => ?_)
 refine X.sto ?_
 simp only [Go.K.nmz]
 refine K.l_nil ?_
 refine X.onE hKK ?_
 refine K.d_pu rfl (fun _ _ => X.nc) rfl ?_
 refine K.d_pu rfl (fun _ _ => X.fa) rfl ?_
 refine K.d_on rfl (fun KK hKK => ?_)
 refine X.sto ?_
 simp only [Go.K.nmz]
 refine K.l_nil ?_
 refine X.onE hKK ?_
 refine K.d_pu rfl (fun _ _ => X.nc) rfl ?_
 refine K.d_pu rfl (fun _ _ => X.fa) rfl ?_
 refine K.d_on rfl (fun KK hKK => ?_)
 refine X.sto ?_
 simp only [Go.K.nmz]
 refine K.l_nil ?_
 refine X.onE hKK ?_
 refine K.d_pu rfl (fun _ _ => X.nc) rfl ?_
 refine K.d_pu rfl (fun _ _ => X.fa) rfl ?_
 refine K.d_on rfl (fun KK hKK => ?_)
 refine X.sto ?_
 simp only [Go.K.nmz]
 refine K.l_nil ?_
 refine X.onE hKK ?_
 refine K.d_nil ?_
 (repeat' first | refine X.rq ?_ | refine X.rc ?_ ?_ <;> intro hc <;> try omega)
 refine X.sto ?_
 simp only [Go.K.nmz]
 (repeat' first | refine X.rq ?_ | refine X.rc ?_ ?_ <;> intro hc <;> try omega)
 refine X.sto ?_
 simp only [Go.K.nmz]
 (repeat' first | refine X.rq ?_ | refine X.rc ?_ ?_ <;> intro hc <;> try omega)
 refine X.sto ?_
 simp only [Go.K.nmz]
 (repeat' first | refine X.rq ?_ | refine X.rc ?_ ?_ <;> intro hc <;> try omega)
 rw [hkp]
 refine K.l_call (Fx.cal rfl) rfl hre (K.pp [5, 5, 5, 5, 5, 5] rfl) rfl ?_
 rintro u h2 H' le2 ⟨rfl, M2, W2, hst2, rfl⟩
 simp only [Go.K.nmz]
 (repeat' first | refine X.rq ?_ | refine X.rc ?_ ?_ <;> intro hc <;> try omega)
 refine K.AT.nilBuf 45 15 ?_
 refine K.AT.nilBuf 27 1 ?_
 refine K.AT.nilBuf 5 1 ?_
 refine K.AT.perm (K.pp [10, 10, 10, 10, 9, 0, 0, 0] rfl) ?_
 exact K.doneC (vs := [.bool true]) (by first | exact Or.inl rfl | exact Or.inr rfl) (.tmp rfl .nil) le2 (D := [_, _, _, _]) (H' := [_, _, _, _, _, _, _, _, _, _]) rfl ⟨rfl, ⟨none, 0, none, 0, none, 0, []⟩, W2, M2, D2, _, [], 0, ⟨f8, f6, ⟨rfl, fun j c x hc => by simp at hc⟩, hst2⟩, f2, rfl, rfl⟩
set_option maxHeartbeats 8000000 in
theorem DoesNone (h : Base) (s p d : Nat) (M : SM) (W : LM) (Dm : DM) (D : Dk) (L : Lg) (rs : List Recd) (m : Nat) (hp : PlayX h M W D L rs m) (cs : List Value) (w n : Int) (hx : ∃ r, RecC h cs r) (hw : w < 0 ∨ 3 < w) :
  Tr Tryz.prog 28 [pv s, pv p, .agg (Value.int .i64 w :: (cs ++ [.int .i64 n])).toArray] h (playA s p d M W Dm D L rs) (DoesR s p d D L) := by
 obtain ⟨r, hx⟩ := hx
 obtain ⟨ad, ai, al, ay, cd, ci, cl, cy, rfl⟩ := recc_cR hx
 refine K.enter Tryz.func28 rfl (Nat.le_of_ble_eq_true rfl) (fun F => ?_)
 unfold playA stA lgA dkA
 simp only [List.cons_append, List.nil_append]
 (repeat' first | refine X.rq ?_ | refine X.rc ?_ ?_ <;> intro hc <;> try omega)
 refine K.l_box rfl rfl rfl (fun B5 => ?_)
 (repeat' first | refine X.rq ?_ | refine X.rc ?_ ?_ <;> intro hc <;> try omega)
 all_goals try (exfalso; omega)
 exact K.doneC (vs := [.bool true]) (by first | exact Or.inl rfl | exact Or.inr rfl) (.tmp rfl .nil) (K.Base.le.refl _) (D := [_]) (H' := [_, _, _, _, _, _, _, _, _, _]) rfl ⟨rfl, M, W, Dm, D, L, rs, m, hp, rfl, rfl, rfl⟩
theorem cel_nums {h : Base} {KK : List Asrt} {b cap k c : Nat} {l : List Nat} (j : Nat) (hj : KK[j]? = some (bufA 27 1 (some b) l.length cap (l.map n64))) (hy : l[k]? = some c) : Cel h KK b k (n64 c) := by
 have hz := K.cel_rowZ (h := h) (es := l.map fun x => [n64 x]) (i := k) (q := 0) j (by rw [nums_flat]; exact hj) (fun e he => by obtain ⟨x, _, rfl⟩ := List.mem_map.1 he; rfl) (by rw [List.getElem?_map, hy]; rfl) rfl
 rwa [Nat.mul_one, Nat.add_zero] at hz
set_option maxHeartbeats 16000000 in
theorem DoesMark (h : Base) (s p d : Nat) (M : SM) (W : LM) (Dm : DM) (D : Dk) (L : Lg) (rs : List Recd) (m : Nat) (hp : PlayX h M W D L rs m) (cs : List Value) (n : Int) (hx : ∃ r, RecC h cs r) (hn : in64 n) :
  Tr Tryz.prog 28 [pv s, pv p, .agg (Value.int .i64 2 :: (cs ++ [.int .i64 n])).toArray] h (playA s p d M W Dm D L rs) (DoesR s p d D L) := by
 obtain ⟨r, hx⟩ := hx
 obtain ⟨hrun, hon, hes, hst⟩ := hp
 have ho := hrun.lgOk
 have ho3 := ho.str
 have ho4 := ho.sts
 have ho5 := ho.mas.n
 have hsl : L.starts.length ≤ 1000000000 := by omega
 obtain ⟨kp, hkp, hkl⟩ : ∃ kp : Nat, IntKind.u64.wrap n = (kp : Int) ∧ kp < 18446744073709551616 := by
  refine ⟨(IntKind.u64.wrap n).toNat, ?_, ?_⟩ <;> (unfold IntKind.wrap; simp [IntKind.bits, IntKind.signed]; omega)
 obtain ⟨a1, k1, a2, k2, a3, k3, es⟩ := M
 obtain ⟨ad, ai, al, ay, cd, ci, cl, cy, rfl⟩ := recc_cR hx
 refine K.enter Tryz.func28 rfl (Nat.le_of_ble_eq_true rfl) (fun F => ?_)
 unfold playA stA lgA dkA stV
 simp only [List.cons_append, List.nil_append]
 (repeat' first | refine X.rq ?_ | refine X.rc ?_ ?_ <;> intro hc <;> try omega)
 refine K.l_box rfl rfl rfl (fun B5 => ?_)
 (repeat' first | refine X.rq ?_ | refine X.rc ?_ ?_ <;> intro hc <;> try omega)
 rw [hkp]
 by_cases hn0 : 0 ≤ n
 ·obtain ⟨k, rfl⟩ : ∃ k : Nat, n = (k : Int) := ⟨n.toNat, by omega⟩
  refine X.draw ([blk B5 47 (.int .i64 2 :: (cR r (.slice ad r.op.data.length cd) (.slice ai r.images.length ci) (.slice al r.lives.length cl) (.slice ay r.dirty.length cy) ++ [.int .i64 k])), blk s 77 [.int .i64 L.m.n, n64 L.m.base, n64 L.m.check, .int .u32 L.m.kept, bufV a1 L.stream.length k1, bufV a2 L.starts.length k2, bufV a3 rs.length k3, n64 L.durable]]) [] (.pu 0 (.st 1 (.pu 2 (.pu 3 (.pu 4 (.pu 6 (.pu 7 (.pu 8 (.st 5 (.st 9 (.pu 10 (.pu 11 (.pu 12 .nil))))))))))))) ?_ (hQ := by repeat (first | with_reducible refine K.NoPanic.then ?_ | with_reducible refine K.NoPanic.inBlock ?_ | with_reducible exact K.post_noPanic _ _ | exact K.post_noPanic _ _ | exact K.QN_noPanic | exact K.postS_noPanic | exact K.postX_noPanic | exact K.RPX_noPanic))
  refine K.d_pu rfl (fun _ _ => X.fa) rfl ?_
  refine K.d_st rfl X.ld rfl ?_
  refine K.d_pu rfl (fun _ _ => X.bgeq) rfl ?_
  rw [decide_eq_true hn0]
  refine K.d_pu rfl (fun _ _ => X.mv) rfl ?_
  first | refine K.d_skip rfl rfl rfl rfl ?_ | refine K.d_skipU rfl rfl rfl rfl rfl ?_ | refine K.d_puG rfl rfl rfl (fun _ _ => X.fa) rfl ?_
  first | refine K.d_skip rfl rfl rfl rfl ?_ | refine K.d_skipU rfl rfl rfl rfl rfl ?_ | refine K.d_puG rfl rfl rfl (fun _ _ => X.mv) rfl ?_
  first | refine K.d_skip rfl rfl rfl rfl ?_ | refine K.d_skipU rfl rfl rfl rfl rfl ?_ | refine K.d_puG rfl rfl rfl (fun _ _ => X.nc) rfl ?_
  first | refine K.d_skip rfl rfl rfl rfl ?_ | refine K.d_skipU rfl rfl rfl rfl rfl ?_ | refine K.d_puG rfl rfl rfl (fun _ _ => X.fa) rfl ?_
  first | refine K.d_skipS rfl rfl rfl rfl ?_ | refine K.d_skipUS rfl rfl rfl rfl rfl ?_ | refine K.d_stG rfl rfl rfl X.ld rfl ?_
  first | refine K.d_skipS rfl rfl rfl rfl ?_ | refine K.d_skipUS rfl rfl rfl rfl rfl ?_ | refine K.d_stG rfl rfl rfl X.ld rfl ?_
  first | refine K.d_skip rfl rfl rfl rfl ?_ | refine K.d_skipU rfl rfl rfl rfl rfl ?_ | refine K.d_puG rfl rfl rfl (fun _ _ => X.len) rfl ?_
  first | refine K.d_skip rfl rfl rfl rfl ?_ | refine K.d_skipU rfl rfl rfl rfl rfl ?_ | refine K.d_puG rfl rfl rfl (fun _ _ => X.blss) rfl ?_
  refine K.d_pu rfl (fun _ _ => X.pk) rfl ?_
  refine K.d_nil ?_
  by_cases hk9 : k < L.starts.length
  ·have hy1 : L.starts[k]? = some (L.starts[k]'hk9) := List.getElem?_eq_getElem hk9
   generalize L.starts[k]'hk9 = c at hy1
   have hcb : c < 18446744073709551616 := by
    have h1 := List.mem_of_getElem? hy1
    rw [hrun.sts] at h1
    have h2 := (starts_rise _ _ hrun.right).2.1 c h1
    have h3 := hrun.fin'
    unfold lastLSN at h3
    omega
   (repeat' first | refine X.rq ?_ | refine X.rc ?_ ?_ <;> intro hc <;> try omega)
   all_goals try (exfalso; omega)
   refine K.WC.someBuf 3 rfl (by omega) (fun b hb => ?_)
   dsimp only at hb
   subst hb
   refine X.draw ([blk B5 47 (.int .i64 2 :: (cR r (.slice ad r.op.data.length cd) (.slice ai r.images.length ci) (.slice al r.lives.length cl) (.slice ay r.dirty.length cy) ++ [.int .i64 k])), blk s 77 [.int .i64 L.m.n, n64 L.m.base, n64 L.m.check, .int .u32 L.m.kept, bufV a1 L.stream.length k1, bufV (some b) L.starts.length k2, bufV a3 rs.length k3, n64 L.durable], stA2 ⟨a1, k1, some b, k2, a3, k3, es⟩ L]) [] (.pu 0 (.pu 1 (.pu 2 (.pu 4 (.st 3 (.st 5 (.pu 6 (.st 7 (.pu 8 .nil))))))))) ?_ (hQ := by repeat (first | with_reducible refine K.NoPanic.then ?_ | with_reducible refine K.NoPanic.inBlock ?_ | with_reducible exact K.post_noPanic _ _ | exact K.post_noPanic _ _ | exact K.QN_noPanic | exact K.postS_noPanic | exact K.postX_noPanic | exact K.RPX_noPanic))
   refine K.d_pu rfl (fun _ _ => X.mv) rfl ?_
   refine K.d_pu rfl (fun _ _ => X.nc) rfl ?_
   refine K.d_pu rfl (fun _ _ => X.fa) rfl ?_
   refine K.d_pu rfl (fun _ _ => X.fa) rfl ?_
   refine K.d_st rfl X.ld rfl ?_
   refine K.d_st rfl X.ld rfl ?_
   refine K.d_pu rfl (fun _ _ => X.ia) rfl ?_
   refine K.d_st rfl (K.p_load (v := n64 c) (Fx.agg rfl) rfl (cel_nums (l := L.starts) 2 rfl hy1)) rfl ?_
   refine K.d_pu rfl (fun _ _ => X.sg) rfl ?_
   refine K.d_nil ?_
   have hmk := Mark h p d W L c Dm D ho hrun.sts_sorted hcb hrun.ok (by rw [hrun.cache]; decide)
   by_cases hq : c ≠ 0 ∧ (c ∉ L.starts ∨ L.durable ≤ c)
   ·have hpl := fun h2 hes => SPlacedA h2 s ⟨a1, k1, some b, k2, a3, k3, es⟩ L rs c hes hsl
    rw [decide_eq_false (fun h9 => by rcases hq.2 with h8 | h8; exact h8 h9.1; omega : ¬ (c ∈ L.starts ∧ c < L.durable))] at hpl
    unfold stA stV at hpl
    rw [show markQ L c D = (1, L, D) from if_pos hq] at hmk
    dsimp only at hmk hpl
    unfold lgA dkA n64 at hmk
    unfold n64 at hpl ⊢
    (repeat' first | refine X.rq ?_ | refine X.rc ?_ ?_ <;> intro hc <;> try omega)
    refine K.l_call (Fx.cal rfl) rfl hmk (K.pp [5, 5, 5, 5, 5, 5] rfl) rfl ?_
    rintro u h2 H' le2 ⟨rfl, M2, rfl⟩
    simp only [Go.K.nmz]
    (repeat' first | refine X.rq ?_ | refine X.rc ?_ ?_ <;> intro hc <;> try omega)
    all_goals try (exfalso; omega)
    refine K.l_callV (Fx.cal rfl) rfl (hpl h2 (rows_le hes le2)) (K.pp [7, 7, 7, 7] rfl) rfl rfl ?_
    simp only [Go.K.nmz]
    (repeat' first | refine X.rq ?_ | refine X.rc ?_ ?_ <;> intro hc <;> try omega)
    all_goals try (exfalso; omega)
    refine K.AT.perm (K.pp [10] rfl) ?_
    exact K.doneC (vs := [.bool true]) (by first | exact Or.inl rfl | exact Or.inr rfl) (.tmp rfl .nil) le2 (D := [_]) (H' := [_, _, _, _, _, _, _, _, _, _]) rfl ⟨rfl, ⟨a1, k1, some b, k2, a3, k3, es⟩, W, M2, D, L, rs, m, ⟨hrun, hon, rows_le hes le2, hst.le le2⟩, rfl, rfl, rfl⟩
   ·obtain ⟨q1, q2, q3, q4⟩ := mark_run (c := c) hrun hq
    obtain ⟨q5, q6⟩ := q1.on hon
    dsimp only at q5 q6
    rcases q4 with ⟨-, q7, q8⟩ | ⟨q7, -⟩
    rotate_left
    ·exfalso; omega
    rw [q5, q7] at hmk
    generalize (markQ L c D).2.2 = D2 at q2 q3 q6 q8 hmk
    unfold lgA dkA n64 at hmk
    unfold n64
    by_cases hc0 : c = 0
    ·subst hc0
     (repeat' first | refine X.rq ?_ | refine X.rc ?_ ?_ <;> intro hc <;> try omega)
     refine K.l_call (Fx.cal rfl) rfl hmk (K.pp [5, 5, 5, 5, 5, 5] rfl) rfl ?_
     rintro u h2 H' le2 ⟨rfl, M2, rfl⟩
     simp only [Go.K.nmz]
     (repeat' first | refine X.rq ?_ | refine X.rc ?_ ?_ <;> intro hc <;> try omega)
     all_goals try (exfalso; omega)
     refine X.sto ?_
     simp only [Go.K.nmz]
     (repeat' first | refine X.rq ?_ | refine X.rc ?_ ?_ <;> intro hc <;> try omega)
     refine K.AT.perm (K.pp [6, 6, 6, 6, 6] rfl) ?_
     exact K.doneC (vs := [.bool true]) (by first | exact Or.inl rfl | exact Or.inr rfl) (.tmp rfl .nil) le2 (D := [_]) (H' := [_, _, _, _, _, _, _, _, _, _]) rfl ⟨rfl, ⟨a1, k1, some b, k2, a3, k3, es⟩, W, M2, D2, _, rs, m, ⟨q8, q6, rows_le hes le2, hst.le le2⟩, q2, rfl, rfl⟩
    ·have hpl := fun h2 hes => SPlacedA h2 s ⟨a1, k1, some b, k2, a3, k3, es⟩ L rs c hes hsl
     rw [decide_eq_true (show c ∈ L.starts ∧ c < L.durable by
      by_cases h8 : c ∈ L.starts
      ·exact ⟨h8, by rcases Nat.lt_or_ge c L.durable with h9 | h9; exact h9; exact absurd ⟨hc0, .inr h9⟩ hq⟩
      ·exact absurd ⟨hc0, .inl h8⟩ hq)] at hpl
     unfold stA stV n64 at hpl
     (repeat' first | refine X.rq ?_ | refine X.rc ?_ ?_ <;> intro hc <;> try omega)
     refine K.l_call (Fx.cal rfl) rfl hmk (K.pp [5, 5, 5, 5, 5, 5] rfl) rfl ?_
     rintro u h2 H' le2 ⟨rfl, M2, rfl⟩
     simp only [Go.K.nmz]
     (repeat' first | refine X.rq ?_ | refine X.rc ?_ ?_ <;> intro hc <;> try omega)
     all_goals try (exfalso; omega)
     refine K.l_callV (Fx.cal rfl) rfl (hpl h2 (rows_le hes le2)) (K.pp [7, 7, 7, 7] rfl) rfl rfl ?_
     simp only [Go.K.nmz]
     (repeat' first | refine X.rq ?_ | refine X.rc ?_ ?_ <;> intro hc <;> try omega)
     all_goals try (exfalso; omega)
     refine X.sto ?_
     simp only [Go.K.nmz]
     (repeat' first | refine X.rq ?_ | refine X.rc ?_ ?_ <;> intro hc <;> try omega)
     refine K.AT.perm (K.pp [10] rfl) ?_
     exact K.doneC (vs := [.bool true]) (by first | exact Or.inl rfl | exact Or.inr rfl) (.tmp rfl .nil) le2 (D := [_]) (H' := [_, _, _, _, _, _, _, _, _, _]) rfl ⟨rfl, ⟨a1, k1, some b, k2, a3, k3, es⟩, W, M2, D2, _, rs, m, ⟨q8, q6, rows_le hes le2, hst.le le2⟩, q2, rfl, rfl⟩
  ·(repeat' first | refine X.rq ?_ | refine X.rc ?_ ?_ <;> intro hc <;> try omega)
   all_goals try (exfalso; omega)
   obtain ⟨c, hcc⟩ : ∃ c, c = kp := ⟨_, rfl⟩
   rw [← hcc] at hkp hkl ⊢
   have hcb := hkl
   have hmk := Mark h p d W L c Dm D ho hrun.sts_sorted hcb hrun.ok (by rw [hrun.cache]; decide)
   by_cases hq : c ≠ 0 ∧ (c ∉ L.starts ∨ L.durable ≤ c)
   ·have hpl := fun h2 hes => SPlacedA h2 s ⟨a1, k1, a2, k2, a3, k3, es⟩ L rs c hes hsl
    rw [decide_eq_false (fun h9 => by rcases hq.2 with h8 | h8; exact h8 h9.1; omega : ¬ (c ∈ L.starts ∧ c < L.durable))] at hpl
    unfold stA stV at hpl
    rw [show markQ L c D = (1, L, D) from if_pos hq] at hmk
    dsimp only at hmk hpl
    unfold lgA dkA n64 at hmk
    unfold n64 at hpl ⊢
    (repeat' first | refine X.rq ?_ | refine X.rc ?_ ?_ <;> intro hc <;> try omega)
    refine K.l_call (Fx.cal rfl) rfl hmk (K.pp [5, 5, 5, 5, 5, 5] rfl) rfl ?_
    rintro u h2 H' le2 ⟨rfl, M2, rfl⟩
    simp only [Go.K.nmz]
    (repeat' first | refine X.rq ?_ | refine X.rc ?_ ?_ <;> intro hc <;> try omega)
    all_goals try (exfalso; omega)
    refine K.l_callV (Fx.cal rfl) rfl (hpl h2 (rows_le hes le2)) (K.pp [7, 7, 7, 7] rfl) rfl rfl ?_
    simp only [Go.K.nmz]
    (repeat' first | refine X.rq ?_ | refine X.rc ?_ ?_ <;> intro hc <;> try omega)
    all_goals try (exfalso; omega)
    refine K.AT.perm (K.pp [10] rfl) ?_
    exact K.doneC (vs := [.bool true]) (by first | exact Or.inl rfl | exact Or.inr rfl) (.tmp rfl .nil) le2 (D := [_]) (H' := [_, _, _, _, _, _, _, _, _, _]) rfl ⟨rfl, ⟨a1, k1, a2, k2, a3, k3, es⟩, W, M2, D, L, rs, m, ⟨hrun, hon, rows_le hes le2, hst.le le2⟩, rfl, rfl, rfl⟩
   ·obtain ⟨q1, q2, q3, q4⟩ := mark_run (c := c) hrun hq
    obtain ⟨q5, q6⟩ := q1.on hon
    dsimp only at q5 q6
    rcases q4 with ⟨-, q7, q8⟩ | ⟨q7, -⟩
    rotate_left
    ·exfalso; omega
    rw [q5, q7] at hmk
    generalize (markQ L c D).2.2 = D2 at q2 q3 q6 q8 hmk
    unfold lgA dkA n64 at hmk
    unfold n64
    by_cases hc0 : c = 0
    ·subst hc0
     (repeat' first | refine X.rq ?_ | refine X.rc ?_ ?_ <;> intro hc <;> try omega)
     refine K.l_call (Fx.cal rfl) rfl hmk (K.pp [5, 5, 5, 5, 5, 5] rfl) rfl ?_
     rintro u h2 H' le2 ⟨rfl, M2, rfl⟩
     simp only [Go.K.nmz]
     (repeat' first | refine X.rq ?_ | refine X.rc ?_ ?_ <;> intro hc <;> try omega)
     all_goals try (exfalso; omega)
     refine X.sto ?_
     simp only [Go.K.nmz]
     (repeat' first | refine X.rq ?_ | refine X.rc ?_ ?_ <;> intro hc <;> try omega)
     refine K.AT.perm (K.pp [6, 6, 6, 6, 6] rfl) ?_
     exact K.doneC (vs := [.bool true]) (by first | exact Or.inl rfl | exact Or.inr rfl) (.tmp rfl .nil) le2 (D := [_]) (H' := [_, _, _, _, _, _, _, _, _, _]) rfl ⟨rfl, ⟨a1, k1, a2, k2, a3, k3, es⟩, W, M2, D2, _, rs, m, ⟨q8, q6, rows_le hes le2, hst.le le2⟩, q2, rfl, rfl⟩
    ·have hpl := fun h2 hes => SPlacedA h2 s ⟨a1, k1, a2, k2, a3, k3, es⟩ L rs c hes hsl
     rw [decide_eq_true (show c ∈ L.starts ∧ c < L.durable by
      by_cases h8 : c ∈ L.starts
      ·exact ⟨h8, by rcases Nat.lt_or_ge c L.durable with h9 | h9; exact h9; exact absurd ⟨hc0, .inr h9⟩ hq⟩
      ·exact absurd ⟨hc0, .inl h8⟩ hq)] at hpl
     unfold stA stV n64 at hpl
     (repeat' first | refine X.rq ?_ | refine X.rc ?_ ?_ <;> intro hc <;> try omega)
     refine K.l_call (Fx.cal rfl) rfl hmk (K.pp [5, 5, 5, 5, 5, 5] rfl) rfl ?_
     rintro u h2 H' le2 ⟨rfl, M2, rfl⟩
     simp only [Go.K.nmz]
     (repeat' first | refine X.rq ?_ | refine X.rc ?_ ?_ <;> intro hc <;> try omega)
     all_goals try (exfalso; omega)
     refine K.l_callV (Fx.cal rfl) rfl (hpl h2 (rows_le hes le2)) (K.pp [7, 7, 7, 7] rfl) rfl rfl ?_
     simp only [Go.K.nmz]
     (repeat' first | refine X.rq ?_ | refine X.rc ?_ ?_ <;> intro hc <;> try omega)
     all_goals try (exfalso; omega)
     refine X.sto ?_
     simp only [Go.K.nmz]
     (repeat' first | refine X.rq ?_ | refine X.rc ?_ ?_ <;> intro hc <;> try omega)
     refine K.AT.perm (K.pp [10] rfl) ?_
     exact K.doneC (vs := [.bool true]) (by first | exact Or.inl rfl | exact Or.inr rfl) (.tmp rfl .nil) le2 (D := [_]) (H' := [_, _, _, _, _, _, _, _, _, _]) rfl ⟨rfl, ⟨a1, k1, a2, k2, a3, k3, es⟩, W, M2, D2, _, rs, m, ⟨q8, q6, rows_le hes le2, hst.le le2⟩, q2, rfl, rfl⟩
 ·refine X.draw ([blk B5 47 (.int .i64 2 :: (cR r (.slice ad r.op.data.length cd) (.slice ai r.images.length ci) (.slice al r.lives.length cl) (.slice ay r.dirty.length cy) ++ [.int .i64 n])), blk s 77 [.int .i64 L.m.n, n64 L.m.base, n64 L.m.check, .int .u32 L.m.kept, bufV a1 L.stream.length k1, bufV a2 L.starts.length k2, bufV a3 rs.length k3, n64 L.durable]]) [] (.pu 0 (.st 1 (.pu 2 (.pu 3 (.pu 4 (.pu 6 (.pu 7 (.pu 8 (.st 5 (.st 9 (.pu 10 (.pu 11 (.pu 12 .nil))))))))))))) ?_ (hQ := by repeat (first | with_reducible refine K.NoPanic.then ?_ | with_reducible refine K.NoPanic.inBlock ?_ | with_reducible exact K.post_noPanic _ _ | exact K.post_noPanic _ _ | exact K.QN_noPanic | exact K.postS_noPanic | exact K.postX_noPanic | exact K.RPX_noPanic))
  refine K.d_pu rfl (fun _ _ => X.fa) rfl ?_
  refine K.d_st rfl X.ld rfl ?_
  refine K.d_pu rfl (fun _ _ => X.bgeq) rfl ?_
  rw [decide_eq_false hn0]
  refine K.d_pu rfl (fun _ _ => X.mv) rfl ?_
  first | refine K.d_skip rfl rfl rfl rfl ?_ | refine K.d_skipU rfl rfl rfl rfl rfl ?_ | refine K.d_puG rfl rfl rfl (fun _ _ => X.fa) rfl ?_
  first | refine K.d_skip rfl rfl rfl rfl ?_ | refine K.d_skipU rfl rfl rfl rfl rfl ?_ | refine K.d_puG rfl rfl rfl (fun _ _ => X.mv) rfl ?_
  first | refine K.d_skip rfl rfl rfl rfl ?_ | refine K.d_skipU rfl rfl rfl rfl rfl ?_ | refine K.d_puG rfl rfl rfl (fun _ _ => X.nc) rfl ?_
  first | refine K.d_skip rfl rfl rfl rfl ?_ | refine K.d_skipU rfl rfl rfl rfl rfl ?_ | refine K.d_puG rfl rfl rfl (fun _ _ => X.fa) rfl ?_
  first | refine K.d_skipS rfl rfl rfl rfl ?_ | refine K.d_skipUS rfl rfl rfl rfl rfl ?_ | refine K.d_stG rfl rfl rfl X.ld rfl ?_
  first | refine K.d_skipS rfl rfl rfl rfl ?_ | refine K.d_skipUS rfl rfl rfl rfl rfl ?_ | refine K.d_stG rfl rfl rfl X.ld rfl ?_
  first | refine K.d_skip rfl rfl rfl rfl ?_ | refine K.d_skipU rfl rfl rfl rfl rfl ?_ | refine K.d_puG rfl rfl rfl (fun _ _ => X.len) rfl ?_
  first | refine K.d_skip rfl rfl rfl rfl ?_ | refine K.d_skipU rfl rfl rfl rfl rfl ?_ | refine K.d_puG rfl rfl rfl (fun _ _ => X.blss) rfl ?_
  refine K.d_pu rfl (fun _ _ => X.pk) rfl ?_
  refine K.d_nil ?_
  (repeat' first | refine X.rq ?_ | refine X.rc ?_ ?_ <;> intro hc <;> try omega)
  all_goals try (exfalso; omega)
  obtain ⟨c, hcc⟩ : ∃ c, c = kp := ⟨_, rfl⟩
  rw [← hcc] at hkp hkl ⊢
  have hcb := hkl
  have hmk := Mark h p d W L c Dm D ho hrun.sts_sorted hcb hrun.ok (by rw [hrun.cache]; decide)
  by_cases hq : c ≠ 0 ∧ (c ∉ L.starts ∨ L.durable ≤ c)
  ·have hpl := fun h2 hes => SPlacedA h2 s ⟨a1, k1, a2, k2, a3, k3, es⟩ L rs c hes hsl
   rw [decide_eq_false (fun h9 => by rcases hq.2 with h8 | h8; exact h8 h9.1; omega : ¬ (c ∈ L.starts ∧ c < L.durable))] at hpl
   unfold stA stV at hpl
   rw [show markQ L c D = (1, L, D) from if_pos hq] at hmk
   dsimp only at hmk hpl
   unfold lgA dkA n64 at hmk
   unfold n64 at hpl ⊢
   (repeat' first | refine X.rq ?_ | refine X.rc ?_ ?_ <;> intro hc <;> try omega)
   refine K.l_call (Fx.cal rfl) rfl hmk (K.pp [5, 5, 5, 5, 5, 5] rfl) rfl ?_
   rintro u h2 H' le2 ⟨rfl, M2, rfl⟩
   simp only [Go.K.nmz]
   (repeat' first | refine X.rq ?_ | refine X.rc ?_ ?_ <;> intro hc <;> try omega)
   all_goals try (exfalso; omega)
   refine K.l_callV (Fx.cal rfl) rfl (hpl h2 (rows_le hes le2)) (K.pp [7, 7, 7, 7] rfl) rfl rfl ?_
   simp only [Go.K.nmz]
   (repeat' first | refine X.rq ?_ | refine X.rc ?_ ?_ <;> intro hc <;> try omega)
   all_goals try (exfalso; omega)
   refine K.AT.perm (K.pp [10] rfl) ?_
   exact K.doneC (vs := [.bool true]) (by first | exact Or.inl rfl | exact Or.inr rfl) (.tmp rfl .nil) le2 (D := [_]) (H' := [_, _, _, _, _, _, _, _, _, _]) rfl ⟨rfl, ⟨a1, k1, a2, k2, a3, k3, es⟩, W, M2, D, L, rs, m, ⟨hrun, hon, rows_le hes le2, hst.le le2⟩, rfl, rfl, rfl⟩
  ·obtain ⟨q1, q2, q3, q4⟩ := mark_run (c := c) hrun hq
   obtain ⟨q5, q6⟩ := q1.on hon
   dsimp only at q5 q6
   rcases q4 with ⟨-, q7, q8⟩ | ⟨q7, -⟩
   rotate_left
   ·exfalso; omega
   rw [q5, q7] at hmk
   generalize (markQ L c D).2.2 = D2 at q2 q3 q6 q8 hmk
   unfold lgA dkA n64 at hmk
   unfold n64
   by_cases hc0 : c = 0
   ·subst hc0
    (repeat' first | refine X.rq ?_ | refine X.rc ?_ ?_ <;> intro hc <;> try omega)
    refine K.l_call (Fx.cal rfl) rfl hmk (K.pp [5, 5, 5, 5, 5, 5] rfl) rfl ?_
    rintro u h2 H' le2 ⟨rfl, M2, rfl⟩
    simp only [Go.K.nmz]
    (repeat' first | refine X.rq ?_ | refine X.rc ?_ ?_ <;> intro hc <;> try omega)
    all_goals try (exfalso; omega)
    refine X.sto ?_
    simp only [Go.K.nmz]
    (repeat' first | refine X.rq ?_ | refine X.rc ?_ ?_ <;> intro hc <;> try omega)
    refine K.AT.perm (K.pp [6, 6, 6, 6, 6] rfl) ?_
    exact K.doneC (vs := [.bool true]) (by first | exact Or.inl rfl | exact Or.inr rfl) (.tmp rfl .nil) le2 (D := [_]) (H' := [_, _, _, _, _, _, _, _, _, _]) rfl ⟨rfl, ⟨a1, k1, a2, k2, a3, k3, es⟩, W, M2, D2, _, rs, m, ⟨q8, q6, rows_le hes le2, hst.le le2⟩, q2, rfl, rfl⟩
   ·have hpl := fun h2 hes => SPlacedA h2 s ⟨a1, k1, a2, k2, a3, k3, es⟩ L rs c hes hsl
    rw [decide_eq_true (show c ∈ L.starts ∧ c < L.durable by
     by_cases h8 : c ∈ L.starts
     ·exact ⟨h8, by rcases Nat.lt_or_ge c L.durable with h9 | h9; exact h9; exact absurd ⟨hc0, .inr h9⟩ hq⟩
     ·exact absurd ⟨hc0, .inl h8⟩ hq)] at hpl
    unfold stA stV n64 at hpl
    (repeat' first | refine X.rq ?_ | refine X.rc ?_ ?_ <;> intro hc <;> try omega)
    refine K.l_call (Fx.cal rfl) rfl hmk (K.pp [5, 5, 5, 5, 5, 5] rfl) rfl ?_
    rintro u h2 H' le2 ⟨rfl, M2, rfl⟩
    simp only [Go.K.nmz]
    (repeat' first | refine X.rq ?_ | refine X.rc ?_ ?_ <;> intro hc <;> try omega)
    all_goals try (exfalso; omega)
    refine K.l_callV (Fx.cal rfl) rfl (hpl h2 (rows_le hes le2)) (K.pp [7, 7, 7, 7] rfl) rfl rfl ?_
    simp only [Go.K.nmz]
    (repeat' first | refine X.rq ?_ | refine X.rc ?_ ?_ <;> intro hc <;> try omega)
    all_goals try (exfalso; omega)
    refine X.sto ?_
    simp only [Go.K.nmz]
    (repeat' first | refine X.rq ?_ | refine X.rc ?_ ?_ <;> intro hc <;> try omega)
    refine K.AT.perm (K.pp [10] rfl) ?_
    exact K.doneC (vs := [.bool true]) (by first | exact Or.inl rfl | exact Or.inr rfl) (.tmp rfl .nil) le2 (D := [_]) (H' := [_, _, _, _, _, _, _, _, _, _]) rfl ⟨rfl, ⟨a1, k1, a2, k2, a3, k3, es⟩, W, M2, D2, _, rs, m, ⟨q8, q6, rows_le hes le2, hst.le le2⟩, q2, rfl, rfl⟩
end Go.Proofs.YtmcdaegaopfihaaGreat.Wl
