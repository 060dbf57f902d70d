/-
 The document's log: what it tells, the disk's bytes. Conditions: each theorem's own.
-/
import Derived.Test.YtmcdaegaopfihaaGreatZ36
import Derived.Test.YtmcdaegaopfihaaGreatZ37
import Derived.Test.YtmcdaegaopfihaaGreatZ38
namespace Go.Proofs.YtmcdaegaopfihaaGreat.Wl
open Go Go.K Go.Proofs Go.Proofs.YtmcdaegaopfihaaGreat Go.Proofs.YtmcdaegaopfihaaGreat.Pg Go.Proofs.YtmcdaegaopfihaaGreat.Ra Go.Proofs.YtmcdaegaopfihaaGreat.Cc Go.Proofs.YtmcdaegaopfihaaGreat.Rc
set_option linter.unusedVariables false
set_option linter.unusedSimpArgs false
set_option maxRecDepth 10000

set_option maxHeartbeats 8000000 in
theorem STellsB (h : Base) (s p d : Nat) (W : LM) (L : Lg) (rs : List Recd) (hb : StB h s L rs) (ho : LgOk L) (hs : StrOk h W L.stream) : TrV Tryz.prog 27 [pv s, pv p] h (lgA p d W L) (.bool true) (lgA p d W L) := by
 have c1 := LBase h p d W L
 have c2 := LEnd h p d W L ho hs
 have c3 := LDurable h p d W L
 have c4 := LCheck h p d W L
 have c5 := LKept h p d W L
 have c6 := LRoom h p d W L ho hs
 have c7 := LSectors h p d W L
 have d2 := SEndB h s L rs hb ho
 have d6 := SRoomB h s L rs hb ho
 obtain ⟨a1, k1, a2, k2, v3, es, hc, hv1, hv2, hv3, hr⟩ := hb
 obtain ⟨e0, e1, e2, e3, e4, e5, e6, e7, -⟩ := hc
 unfold n64 at c1 c2 c3 c4 d2 e1 e2 e7
 refine K.enter Tryz.func27 rfl (Nat.le_of_ble_eq_true rfl) (fun F => ?_)
 unfold lgA at c1 c2 c3 c4 c5 c6 c7 ⊢
 simp only [List.cons_append, List.nil_append]
 (repeat' first | refine X.rq ?_ | refine X.rc ?_ ?_ <;> intro hc <;> try omega)
 refine X.draw (_) [] (.pu 0 (.pu 2 (.pu 3 (.pu 4 (.st 5 (.on 1 (.pu 6 (.pu 7 (.pu 8 (.pu 10 (.on 9 (.on 11 (.pu 12 (.pu 13 (.pu 14 (.pu 15 (.pu 17 (.pu 18 (.pu 19 (.st 20 (.on 16 (.pu 21 (.pu 22 (.pu 23 (.pu 24 (.pu 26 (.pu 27 (.pu 28 (.st 29 (.on 25 (.pu 30 (.pu 31 (.pu 32 (.pu 33 (.pu 35 (.pu 36 (.pu 37 (.st 38 (.on 34 (.pu 39 (.pu 40 (.pu 41 (.pu 42 (.pu 44 (.on 43 (.on 45 (.pu 46 (.pu 47 (.pu 48 (.pu 49 (.pu 51 (.pu 52 (.pu 53 (.st 54 (.on 50 (.pu 55 (.pu 56 (.pu 57 .nil)))))))))))))))))))))))))))))))))))))))))))))))))))))))))) ?_ (hQ := by repeat (first | with_reducible refine K.NoPanic.then ?_ | with_reducible refine K.NoPanic.inBlock ?_ | with_reducible exact K.post_noPanic _ _ | exact K.post_noPanic _ _ | exact K.QN_noPanic | exact K.postS_noPanic | exact K.postX_noPanic | exact K.RPX_noPanic))
 refine K.d_pu rfl (fun _ _ => X.mv) rfl ?_
 refine K.d_pu rfl (fun _ _ => X.mv) rfl ?_
 refine K.d_pu rfl (fun _ _ => X.nc) rfl ?_
 refine K.d_pu rfl (fun _ _ => X.fa) rfl ?_
 refine K.d_st rfl (K.p_load (Fx.agg rfl) rfl (K.Cel.up e1)) rfl ?_
 refine K.d_on rfl (fun KK hKK => ?_)
 refine K.l_callV (Fx.cal rfl) rfl c1 (K.pp [0, 0, 0] rfl) rfl rfl ?_
 refine K.l_nil ?_
 refine X.onE hKK ?_
 refine K.d_pu rfl (fun _ _ => X.beql) rfl ?_
 rw [decide_eq_true (show (L.m.base : Int) = L.m.base from rfl)]
 refine K.d_pu rfl (fun _ _ => X.mv) rfl ?_
 first | refine K.d_skip rfl rfl rfl rfl ?_ | refine K.d_skipU rfl rfl rfl rfl rfl ?_ | refine K.d_puG rfl rfl rfl (fun _ _ => X.mv) rfl ?_
 first | refine K.d_skip rfl rfl rfl rfl ?_ | refine K.d_skipU rfl rfl rfl rfl rfl ?_ | refine K.d_puG rfl rfl rfl (fun _ _ => X.mv) rfl ?_
 refine K.d_on rfl (fun KK hKK => ?_)
 refine K.s_take rfl rfl ?_
 refine K.l_callV (Fx.cal rfl) rfl c2 (K.pp [0, 0, 0] rfl) rfl rfl ?_
 refine K.l_nil ?_
 refine X.onE hKK ?_
 refine K.d_on rfl (fun KK hKK => ?_)
 refine K.s_take rfl rfl ?_
 refine K.l_callV (Fx.cal rfl) rfl d2 (K.pp [] rfl) rfl rfl ?_
 refine K.l_nil ?_
 refine X.onE hKK ?_
 first | refine K.d_skip rfl rfl rfl rfl ?_ | refine K.d_skipU rfl rfl rfl rfl rfl ?_ | refine K.d_puG rfl rfl rfl (fun _ _ => X.beql) rfl ?_
 rw [decide_eq_true (show (endQ L : Int) = endQ L from rfl)]
 refine K.d_pu rfl (fun _ _ => X.pk) rfl ?_
 refine K.d_pu rfl (fun _ _ => X.mv) rfl ?_
 first | refine K.d_skip rfl rfl rfl rfl ?_ | refine K.d_skipU rfl rfl rfl rfl rfl ?_ | refine K.d_puG rfl rfl rfl (fun _ _ => X.mv) rfl ?_
 first | refine K.d_skip rfl rfl rfl rfl ?_ | refine K.d_skipU rfl rfl rfl rfl rfl ?_ | refine K.d_puG rfl rfl rfl (fun _ _ => X.mv) rfl ?_
 first | refine K.d_skip rfl rfl rfl rfl ?_ | refine K.d_skipU rfl rfl rfl rfl rfl ?_ | refine K.d_puG rfl rfl rfl (fun _ _ => X.nc) rfl ?_
 first | refine K.d_skip rfl rfl rfl rfl ?_ | refine K.d_skipU rfl rfl rfl rfl rfl ?_ | refine K.d_puG rfl rfl rfl (fun _ _ => X.fa) rfl ?_
 refine K.d_stG rfl rfl rfl (K.p_load (Fx.agg rfl) rfl (K.Cel.up e7)) rfl ?_
 refine K.d_on rfl (fun KK hKK => ?_)
 refine K.s_take rfl rfl ?_
 refine K.l_callV (Fx.cal rfl) rfl c3 (K.pp [0, 0, 0] rfl) rfl rfl ?_
 refine K.l_nil ?_
 refine X.onE hKK ?_
 first | refine K.d_skip rfl rfl rfl rfl ?_ | refine K.d_skipU rfl rfl rfl rfl rfl ?_ | refine K.d_puG rfl rfl rfl (fun _ _ => X.beql) rfl ?_
 rw [decide_eq_true (show (L.durable : Int) = L.durable from rfl)]
 refine K.d_pu rfl (fun _ _ => X.pk) rfl ?_
 refine K.d_pu rfl (fun _ _ => X.mv) rfl ?_
 first | refine K.d_skip rfl rfl rfl rfl ?_ | refine K.d_skipU rfl rfl rfl rfl rfl ?_ | refine K.d_puG rfl rfl rfl (fun _ _ => X.mv) rfl ?_
 first | refine K.d_skip rfl rfl rfl rfl ?_ | refine K.d_skipU rfl rfl rfl rfl rfl ?_ | refine K.d_puG rfl rfl rfl (fun _ _ => X.mv) rfl ?_
 first | refine K.d_skip rfl rfl rfl rfl ?_ | refine K.d_skipU rfl rfl rfl rfl rfl ?_ | refine K.d_puG rfl rfl rfl (fun _ _ => X.nc) rfl ?_
 first | refine K.d_skip rfl rfl rfl rfl ?_ | refine K.d_skipU rfl rfl rfl rfl rfl ?_ | refine K.d_puG rfl rfl rfl (fun _ _ => X.fa) rfl ?_
 refine K.d_stG rfl rfl rfl (K.p_load (Fx.agg rfl) rfl (K.Cel.up e2)) rfl ?_
 refine K.d_on rfl (fun KK hKK => ?_)
 refine K.s_take rfl rfl ?_
 refine K.l_callV (Fx.cal rfl) rfl c4 (K.pp [0, 0, 0] rfl) rfl rfl ?_
 refine K.l_nil ?_
 refine X.onE hKK ?_
 first | refine K.d_skip rfl rfl rfl rfl ?_ | refine K.d_skipU rfl rfl rfl rfl rfl ?_ | refine K.d_puG rfl rfl rfl (fun _ _ => X.beql) rfl ?_
 rw [decide_eq_true (show (L.m.check : Int) = L.m.check from rfl)]
 refine K.d_pu rfl (fun _ _ => X.pk) rfl ?_
 refine K.d_pu rfl (fun _ _ => X.mv) rfl ?_
 first | refine K.d_skip rfl rfl rfl rfl ?_ | refine K.d_skipU rfl rfl rfl rfl rfl ?_ | refine K.d_puG rfl rfl rfl (fun _ _ => X.mv) rfl ?_
 first | refine K.d_skip rfl rfl rfl rfl ?_ | refine K.d_skipU rfl rfl rfl rfl rfl ?_ | refine K.d_puG rfl rfl rfl (fun _ _ => X.mv) rfl ?_
 first | refine K.d_skip rfl rfl rfl rfl ?_ | refine K.d_skipU rfl rfl rfl rfl rfl ?_ | refine K.d_puG rfl rfl rfl (fun _ _ => X.nc) rfl ?_
 first | refine K.d_skip rfl rfl rfl rfl ?_ | refine K.d_skipU rfl rfl rfl rfl rfl ?_ | refine K.d_puG rfl rfl rfl (fun _ _ => X.fa) rfl ?_
 refine K.d_stG rfl rfl rfl (K.p_load (Fx.agg rfl) rfl (K.Cel.up e3)) rfl ?_
 refine K.d_on rfl (fun KK hKK => ?_)
 refine K.s_take rfl rfl ?_
 refine K.l_callV (Fx.cal rfl) rfl c5 (K.pp [0, 0, 0] rfl) rfl rfl ?_
 refine K.l_nil ?_
 refine X.onE hKK ?_
 first | refine K.d_skip rfl rfl rfl rfl ?_ | refine K.d_skipU rfl rfl rfl rfl rfl ?_ | refine K.d_puG rfl rfl rfl (fun _ _ => X.beql) rfl ?_
 rw [decide_eq_true (show (L.m.kept : Int) = L.m.kept from rfl)]
 refine K.d_pu rfl (fun _ _ => X.pk) rfl ?_
 refine K.d_pu rfl (fun _ _ => X.mv) rfl ?_
 first | refine K.d_skip rfl rfl rfl rfl ?_ | refine K.d_skipU rfl rfl rfl rfl rfl ?_ | refine K.d_puG rfl rfl rfl (fun _ _ => X.mv) rfl ?_
 first | refine K.d_skip rfl rfl rfl rfl ?_ | refine K.d_skipU rfl rfl rfl rfl rfl ?_ | refine K.d_puG rfl rfl rfl (fun _ _ => X.mv) rfl ?_
 refine K.d_on rfl (fun KK hKK => ?_)
 refine K.s_take rfl rfl ?_
 refine K.l_callV (Fx.cal rfl) rfl c6 (K.pp [0, 0, 0] rfl) rfl rfl ?_
 refine K.l_nil ?_
 refine X.onE hKK ?_
 refine K.d_on rfl (fun KK hKK => ?_)
 refine K.s_take rfl rfl ?_
 refine K.l_callV (Fx.cal rfl) rfl d6 (K.pp [] rfl) rfl rfl ?_
 refine K.l_nil ?_
 refine X.onE hKK ?_
 first | refine K.d_skip rfl rfl rfl rfl ?_ | refine K.d_skipU rfl rfl rfl rfl rfl ?_ | refine K.d_puG rfl rfl rfl (fun _ _ => X.beql) rfl ?_
 rw [decide_eq_true (show (roomQ L : Int) = roomQ L from rfl)]
 refine K.d_pu rfl (fun _ _ => X.pk) rfl ?_
 refine K.d_pu rfl (fun _ _ => X.mv) rfl ?_
 first | refine K.d_skip rfl rfl rfl rfl ?_ | refine K.d_skipU rfl rfl rfl rfl rfl ?_ | refine K.d_puG rfl rfl rfl (fun _ _ => X.mv) rfl ?_
 first | refine K.d_skip rfl rfl rfl rfl ?_ | refine K.d_skipU rfl rfl rfl rfl rfl ?_ | refine K.d_puG rfl rfl rfl (fun _ _ => X.mv) rfl ?_
 first | refine K.d_skip rfl rfl rfl rfl ?_ | refine K.d_skipU rfl rfl rfl rfl rfl ?_ | refine K.d_puG rfl rfl rfl (fun _ _ => X.nc) rfl ?_
 first | refine K.d_skip rfl rfl rfl rfl ?_ | refine K.d_skipU rfl rfl rfl rfl rfl ?_ | refine K.d_puG rfl rfl rfl (fun _ _ => X.fa) rfl ?_
 refine K.d_stG rfl rfl rfl (K.p_load (Fx.agg rfl) rfl (K.Cel.up e0)) rfl ?_
 refine K.d_on rfl (fun KK hKK => ?_)
 refine K.s_take rfl rfl ?_
 refine K.l_callV (Fx.cal rfl) rfl c7 (K.pp [0, 0, 0] rfl) rfl rfl ?_
 refine K.l_nil ?_
 refine X.onE hKK ?_
 first | refine K.d_skip rfl rfl rfl rfl ?_ | refine K.d_skipU rfl rfl rfl rfl rfl ?_ | refine K.d_puG rfl rfl rfl (fun _ _ => X.beql) rfl ?_
 rw [decide_eq_true (show (L.m.n : Int) = L.m.n from rfl)]
 refine K.d_pu rfl (fun _ _ => X.pk) rfl ?_
 refine K.d_pu rfl (fun _ _ => X.sg) rfl ?_
 refine K.d_nil ?_
 (repeat' first | refine X.rq ?_ | refine X.rc ?_ ?_ <;> intro hc <;> try omega)
 refine K.done (by first | exact Or.inl rfl | exact Or.inr rfl) rfl (by first | exact K.Base.le.refl _ | assumption) (H' := [_, _, _]) rfl ⟨rfl, rfl, rfl⟩
def logB (S : List UInt8) (k : Nat) : List UInt8 := ((List.range k).map (secB S)).flatten
def imageQ (m : Mas) (S : List UInt8) (k : Nat) : List UInt8 := masterB m ++ logB S k
theorem logB_succ (S : List UInt8) (k : Nat) : logB S (k + 1) = logB S k ++ secB S k := by
 unfold logB
 rw [List.range_succ, List.map_append, List.flatten_append]; simp
theorem logB_len (S : List UInt8) : ∀ k, (logB S k).length = k * 512
 | 0 => rfl
 | k + 1 => by rw [logB_succ, List.length_append, logB_len S k, sec_len]; omega
theorem image_len (m : Mas) (S : List UInt8) (k : Nat) : (imageQ m S k).length = (1 + k) * 512 := by
 unfold imageQ; rw [List.length_append, master_len, logB_len]; omega
theorem part_from (S : List UInt8) (up i : Nat) (hu : up ≤ S.length) : (S.drop (min (i * 510) up)).take (min (min (i * 510) up + 510) up - min (i * 510) up) = partB (S.take up) i := by
 unfold partB
 by_cases h : i * 510 ≤ up
 ·rw [Nat.min_eq_left h, List.drop_take, List.take_take]
  congr 1; omega
 ·rw [show min (min (i * 510) up + 510) up - min (i * 510) up = 0 by omega, List.take_zero, List.drop_of_length_le (by rw [List.length_take]; omega)]; rfl
structure ImS2 where
 a : Option Nat
 c : Nat
 j : Nat
set_option maxHeartbeats 8000000 in
theorem SImageB (h : Base) (s : Nat) (S : Lg) (rs : List Recd) (up : Nat) (hb : StB h s S rs) (hm : MasOk S.m) (hw : S.m.wiped = false) (hu : up ≤ S.stream.length) (hl : S.stream.length ≤ 100000000) :
  Tr Tryz.prog 30 [pv s, .int .i64 up] h [] (Gave h (imageQ S.m (S.stream.take up) S.m.n)) := by
 have hM := MasterBytes h S.m.n S.m.base S.m.check S.m.kept hm.n hm.base hm.check hm.kept
 rw [show (⟨S.m.n, S.m.base, S.m.check, S.m.kept, false⟩ : Mas) = S.m by rw [← hw]] at hM
 have hn := hm.n
 obtain ⟨a1, k1, a2, k2, v3, es, hc, hv1, hv2, hv3, hr⟩ := hb
 obtain ⟨e0, e1, e2, e3, e4, e5, e6, e7, -⟩ := hc
 refine K.enter Tryz.func30 rfl (Nat.le_of_ble_eq_true rfl) (fun F => ?_)
 simp only [List.nil_append]
 unfold n64 at e1 e2 e7 hM
 (repeat' first | refine X.rq ?_ | refine X.rc ?_ ?_ <;> intro hc <;> try omega)
 refine X.draw (_) [] (.pu 0 (.pu 1 (.pu 2 (.pu 4 (.pu 5 (.pu 6 (.pu 8 (.pu 9 (.pu 10 (.pu 12 (.pu 13 (.pu 14 (.st 3 (.st 7 (.st 11 (.st 15 (.on 16 (.pu 17 .nil)))))))))))))))))) ?_ (hQ := by repeat (first | with_reducible refine K.NoPanic.then ?_ | with_reducible refine K.NoPanic.inBlock ?_ | with_reducible exact K.post_noPanic _ _ | exact K.post_noPanic _ _ | exact K.QN_noPanic | exact K.postS_noPanic | exact K.postX_noPanic | exact K.RPX_noPanic))
 refine K.d_pu rfl (fun _ _ => X.mv) rfl ?_
 refine K.d_pu rfl (fun _ _ => X.nc) rfl ?_
 refine K.d_pu rfl (fun _ _ => X.fa) rfl ?_
 refine K.d_pu rfl (fun _ _ => X.mv) rfl ?_
 refine K.d_pu rfl (fun _ _ => X.nc) rfl ?_
 refine K.d_pu rfl (fun _ _ => X.fa) rfl ?_
 refine K.d_pu rfl (fun _ _ => X.mv) rfl ?_
 refine K.d_pu rfl (fun _ _ => X.nc) rfl ?_
 refine K.d_pu rfl (fun _ _ => X.fa) rfl ?_
 refine K.d_pu rfl (fun _ _ => X.mv) rfl ?_
 refine K.d_pu rfl (fun _ _ => X.nc) rfl ?_
 refine K.d_pu rfl (fun _ _ => X.fa) rfl ?_
 refine K.d_st rfl (K.p_load (Fx.agg rfl) rfl (K.Cel.up e0)) rfl ?_
 refine K.d_st rfl (K.p_load (Fx.agg rfl) rfl (K.Cel.up e1)) rfl ?_
 refine K.d_st rfl (K.p_load (Fx.agg rfl) rfl (K.Cel.up e2)) rfl ?_
 refine K.d_st rfl (K.p_load (Fx.agg rfl) rfl (K.Cel.up e3)) rfl ?_
 refine K.d_on rfl (fun KK hKK => ?_)
 refine K.l_call (Fx.cal rfl) rfl hM (K.pp [] rfl) rfl ?_
 rintro u h' H' - ⟨rfl, a, c, rfl, rfl⟩
 simp only [List.cons_append, List.nil_append]
 refine K.l_nil ?_
 refine X.onE hKK ?_
 refine K.d_pu rfl (fun _ _ => X.sg) rfl ?_
 refine K.d_nil ?_
 (repeat' first | refine X.rq ?_ | refine X.rc ?_ ?_ <;> intro hc <;> try omega)
 have hlen0 : (imageQ S.m (S.stream.take up) 0).length = (masterB S.m).length := by rw [image_len, master_len]
 have him0 : imageQ S.m (S.stream.take up) 0 = masterB S.m := by unfold imageQ logB; simp
 rw [← him0]
 refine K.c_loop (σ := ImS2) (fun q => [(0, pv s), (1, .int .i64 up), (5, bufV q.a (imageQ S.m (S.stream.take up) q.j).length q.c), (6, .int .i64 q.j)]) (fun _ => h) (fun q => bufA 5 1 q.a (imageQ S.m (S.stream.take up) q.j).length q.c ((imageQ S.m (S.stream.take up) q.j).map u8) :: F)
  (fun q => q.j ≤ S.m.n) (fun q => S.m.n - q.j) ⟨a, c, 0⟩ (Nat.zero_le _) (by repeat (first | exact K.Sub.nil _ | refine K.Sub.cons rfl ?_)) rfl rfl ?_
 rintro ⟨a, c, j⟩ hj KL hKL
 dsimp only at hj ⊢
 have hlj := image_len S.m (S.stream.take up) j
 have f0 := K.Cel.up (K := bufA 5 1 a (imageQ S.m (S.stream.take up) j).length c ((imageQ S.m (S.stream.take up) j).map u8) :: F) e0
 by_cases hjl : j < S.m.n
 ·obtain ⟨f, hf⟩ : ∃ f, f = min (j * 510) up := ⟨_, rfl⟩
  obtain ⟨t, ht⟩ : ∃ t, t = min (f + 510) up := ⟨_, rfl⟩
  have hpf := part_from S.stream up j hu
  rw [← hf, ← ht] at hpf
  have hft : f ≤ t ∧ t ≤ up ∧ t - f ≤ 510 := by omega
  have hpl : (partB (S.stream.take up) j).length = t - f := by rw [← hpf, List.length_take, List.length_drop]; omega
  (repeat' first | refine X.rq ?_ | refine X.rc ?_ ?_ <;> intro hc <;> try omega)
  rw [show min ((j : Int) * 510) (up : Int) = (f : Int) by omega]
  rw [show min ((f : Int) + 510) (up : Int) = (t : Int) by omega]
  rw [show (t : Int) - (f : Int) = ((t - f : Nat) : Int) by omega]
  refine K.l_call (Fx.cal rfl) rfl (Fixed h (t - f) 2 (by omega) (by omega)) (K.pp [] rfl) rfl ?_
  rintro u h' H' - ⟨rfl, a2, c2, rfl, rfl⟩
  simp only [List.cons_append, List.nil_append]
  have f4' := K.Cel.up (K := bufA 5 1 a2 (lebs (t - f) 2).length c2 ((lebs (t - f) 2).map u8) :: bufA 5 1 a (imageQ S.m (S.stream.take up) j).length c ((imageQ S.m (S.stream.take up) j).map u8) :: F) e4
  (repeat' first | refine X.rq ?_ | refine X.rc ?_ ?_ <;> intro hc <;> try omega)
  refine K.s_pureE (K.p_sliceB (k1 := .i64) (k2 := .i64) (p := f) (q := t) hv1 (Fx.und rfl) (Fx.sz rfl) rfl ⟨_, rfl, rfl⟩ ⟨_, rfl, rfl⟩ (by omega) (by omega)) rfl ?_
  intro v4 hv4
  rw [List.drop_take, hpf] at hv4
  refine l_appBV hv4 (Fx.und rfl) (Fx.und rfl) rfl rfl (by rw [lebs_length, hpl]; omega) rfl (fun a5 c5 => ?_)
  have hll : (lebs (t - f) 2 ++ partB (S.stream.take up) j).length ≤ 512 := by rw [List.length_append, lebs_length, hpl]; omega
  have hP := Padded h a5 c5 _ hll
  rw [show padS (lebs (t - f) 2 ++ partB (S.stream.take up) j) = secB (S.stream.take up) j by unfold secB; rw [hpl]] at hP
  refine K.l_call (Fx.cal rfl) rfl hP (K.pp [0] rfl) rfl ?_
  rintro u h' H' - ⟨rfl, a6, c6, rfl, rfl⟩
  simp only [List.cons_append, List.nil_append]
  simp only [Go.K.nmz]
  refine l_appBB (l := imageQ S.m (S.stream.take up) j) (l2 := secB (S.stream.take up) j) (Fx.und rfl) (Fx.und rfl) rfl rfl (by rw [hlj, sec_len]; omega) rfl (fun a7 c7 => ?_)
  (repeat' first | refine X.rq ?_ | refine X.rc ?_ ?_ <;> intro hc <;> try omega)
  rw [show imageQ S.m (S.stream.take up) j ++ secB (S.stream.take up) j = imageQ S.m (S.stream.take up) (j + 1) by unfold imageQ; rw [logB_succ, List.append_assoc]]
  refine K.a_round hKL ⟨a7, c7, j + 1⟩ (by dsimp only; omega) (by repeat (first | exact K.Sub.nil _ | refine K.Sub.cons rfl ?_)) rfl rfl (by dsimp only; omega)
 ·obtain rfl : j = S.m.n := by omega
  (repeat' first | refine X.rq ?_ | refine X.rc ?_ ?_ <;> intro hc <;> try omega)
  refine K.done (by first | exact Or.inl rfl | exact Or.inr rfl) rfl (by first | exact K.Base.le.refl _ | assumption) (H' := [_]) rfl ⟨rfl, a, c, rfl, rfl⟩
structure FoP (S : Lg) (rs l : List Recd) : Prop where
 len : l.length ≤ rs.length
 sts : S.starts.length = rs.length
 has : ∀ (j : Nat) x, l[j]? = some x → ∃ r, rs[j]? = some r ∧ z0 x = z0 r ∧ S.starts[j]? = some x.lsn
set_option maxHeartbeats 8000000 in
theorem SFoundB (h : Base) (s : Nat) (S : Lg) (rs l : List Recd) (sv : Value) (hb : StB h s S rs) (hl : RecsV h sv l) (hf : FoP S rs l) (hn : rs.length ≤ 1000000000) :
  TrV Tryz.prog 31 [pv s, sv] h [] (.bool true) [] := by
 obtain ⟨a1, k1, a2, k2, v3, es, hc, hv1, hv2, hv3, hel, hr⟩ := hb
 obtain ⟨e0, e1, e2, e3, e4, e5, e6, e7, -⟩ := hc
 obtain ⟨a3, k3, rfl⟩ := hv3.len
 obtain ⟨fs, hvl, hfl, hrl⟩ := hl
 obtain ⟨a4, k4, rfl⟩ := hvl.len
 obtain ⟨f1, f2, f3⟩ := hf
 rw [hel] at e6 hv3
 rw [hfl] at hvl ⊢
 refine K.enter Tryz.func31 rfl (Nat.le_of_ble_eq_true rfl) (fun F => ?_)
 simp only [List.nil_append]
 have g6 := K.Cel.up (K := F) e6
 (repeat' first | refine X.rq ?_ | refine X.rc ?_ ?_ <;> intro hc <;> try omega)
 all_goals try (exfalso; omega)
 refine K.c_loop (σ := Nat) (fun j => [(0, pv s), (1, .slice a4 l.length k4), (5, .int .i64 j)]) (fun _ => h) (fun _ => F)
  (fun j => j ≤ l.length) (fun j => l.length - j) 0 (Nat.zero_le _) (by repeat (first | exact K.Sub.nil _ | refine K.Sub.cons rfl ?_)) rfl rfl ?_
 rintro j hj KL hKL
 by_cases hjl : j < l.length
 ·have hx1 : l[j]? = some (l[j]'hjl) := List.getElem?_eq_getElem hjl
  generalize l[j]'hjl = x at hx1
  obtain ⟨r, hr1, hz, hs1⟩ := f3 j x hx1
  have hc1 : fs[j]? = some (fs[j]'(by omega)) := List.getElem?_eq_getElem (by omega)
  generalize fs[j]'(by omega) = c at hc1
  have hd1 : es[j]? = some (es[j]'(by omega)) := List.getElem?_eq_getElem (by omega)
  generalize es[j]'(by omega) = d at hd1
  have hxc := hrl j c x hc1 hx1
  have hrc := hr j d r hd1 hr1
  have hsame := SameR h c d x r hxc hrc
  rw [decide_eq_true hz] at hsame
  have hcl := rec_len hxc
  have hdl := rec_len hrc
  have hc0 : fs[((j : Nat) : Int).toNat]? = some c := by rw [Int.toNat_natCast]; exact hc1
  have hd0 : es[((j : Nat) : Int).toNat]? = some d := by rw [Int.toNat_natCast]; exact hd1
  have ht0 : (S.starts.map fun n => [n64 n])[((j : Nat) : Int).toNat]? = some [n64 x.lsn] := by rw [Int.toNat_natCast, List.getElem?_map, hs1]; rfl
  have hlsn : c[1]? = some (n64 x.lsn) := by
   obtain ⟨_, _, _, _, _, _, _, _, _, ec, _⟩ := hxc.cells
   rw [ec]; rfl
  unfold n64 at hlsn ht0
  (repeat' first | refine X.rq ?_ | refine X.rc ?_ ?_ <;> intro hc <;> try omega)
  refine X.draw (_) [] (.pu 0 (.pu 1 (.pu 5 (.pu 6 (.pu 7 (.pu 9 (.st 2 (.pu 3 (.st 4 (.st 8 (.st 10 (.st 11 (.pu 12 (.pu 13 (.pu 14 (.pu 15 (.pu 18 (.pu 19 (.pu 20 (.pu 22 (.st 16 (.st 17 (.st 21 (.st 23 (.st 24 (.on 25 (.pu 26 (.pu 27 .nil)))))))))))))))))))))))))))) ?_ (hQ := by repeat (first | with_reducible refine K.NoPanic.then ?_ | with_reducible refine K.NoPanic.inBlock ?_ | with_reducible exact K.post_noPanic _ _ | exact K.post_noPanic _ _ | exact K.QN_noPanic | exact K.postS_noPanic | exact K.postX_noPanic | exact K.RPX_noPanic))
  refine K.d_pu rfl (fun _ _ => X.mv) rfl ?_
  refine K.d_pu rfl (fun _ _ => X.mv) rfl ?_
  refine K.d_pu rfl (fun _ _ => X.mv) rfl ?_
  refine K.d_pu rfl (fun _ _ => X.nc) rfl ?_
  refine K.d_pu rfl (fun _ _ => X.fa) rfl ?_
  refine K.d_pu rfl (fun _ _ => X.mv) rfl ?_
  refine K.d_stE rfl (K.p_indexL hvl (Fx.und rfl) (Fx.sz rfl) rfl rfl (by omega) hc0) rfl ?_
  rintro v22 ⟨b2, o2, rfl, hcel2⟩
  refine K.d_pu rfl (fun _ _ => X.fa) rfl ?_
  refine K.d_st rfl (K.p_load (v := .int .u64 x.lsn) (Fx.agg rfl) rfl (Cels.get (Cels.up hcel2) 1 _ hlsn)) rfl ?_
  refine K.d_st rfl (K.p_load (Fx.agg rfl) rfl (K.Cel.up e5)) rfl ?_
  refine K.d_stE rfl (K.p_indexL hv2 (Fx.und rfl) (Fx.sz rfl) rfl rfl (by omega) ht0) rfl ?_
  rintro v30 ⟨b3, o3, rfl, hcel3⟩
  refine K.d_st rfl (K.p_load (v := .int .u64 x.lsn) (Fx.agg rfl) rfl (K.Cel.up hcel3.1)) rfl ?_
  refine K.d_pu rfl (fun _ _ => X.bneq) rfl ?_
  rw [decide_eq_false (fun e => e rfl : ¬ ((x.lsn : Int) ≠ (x.lsn : Int)))]
  refine K.d_pu rfl (fun _ _ => X.mv) rfl ?_
  first | refine K.d_skip rfl rfl rfl rfl ?_ | refine K.d_skipU rfl rfl rfl rfl rfl ?_ | refine K.d_puG rfl rfl rfl (fun _ _ => X.mv) rfl ?_
  first | refine K.d_skip rfl rfl rfl rfl ?_ | refine K.d_skipU rfl rfl rfl rfl rfl ?_ | refine K.d_puG rfl rfl rfl (fun _ _ => X.mv) rfl ?_
  first | refine K.d_skip rfl rfl rfl rfl ?_ | refine K.d_skipU rfl rfl rfl rfl rfl ?_ | refine K.d_puG rfl rfl rfl (fun _ _ => X.mv) rfl ?_
  first | refine K.d_skip rfl rfl rfl rfl ?_ | refine K.d_skipU rfl rfl rfl rfl rfl ?_ | refine K.d_puG rfl rfl rfl (fun _ _ => X.nc) rfl ?_
  first | refine K.d_skip rfl rfl rfl rfl ?_ | refine K.d_skipU rfl rfl rfl rfl rfl ?_ | refine K.d_puG rfl rfl rfl (fun _ _ => X.fa) rfl ?_
  first | refine K.d_skip rfl rfl rfl rfl ?_ | refine K.d_skipU rfl rfl rfl rfl rfl ?_ | refine K.d_puG rfl rfl rfl (fun _ _ => X.mv) rfl ?_
  refine K.d_stGE rfl rfl rfl (K.p_indexL hvl (Fx.und rfl) (Fx.sz rfl) rfl rfl (by omega) hc0) rfl ?_
  rintro v36 ⟨b4, o4, rfl, hcel4⟩
  refine K.d_stG rfl rfl rfl (K.p_loadM (vs := c) (Fx.agg rfl) rfl (Cels.up hcel4) (Fx.sz rfl) hcl) rfl ?_
  refine K.d_stG rfl rfl rfl (K.p_load (Fx.agg rfl) rfl (K.Cel.up e6)) rfl ?_
  refine K.d_stGE rfl rfl rfl (K.p_indexL hv3 (Fx.und rfl) (Fx.sz rfl) rfl rfl (by omega) hd0) rfl ?_
  rintro v43 ⟨b5, o5, rfl, hcel5⟩
  refine K.d_stG rfl rfl rfl (K.p_loadM (vs := d) (Fx.agg rfl) rfl (Cels.up hcel5) (Fx.sz rfl) hdl) rfl ?_
  refine K.d_on rfl (fun KK hKK => ?_)
  refine K.s_take rfl rfl ?_
  refine K.l_callV (Fx.cal rfl) rfl hsame (K.pp [] rfl) rfl rfl ?_
  refine K.l_nil ?_
  refine X.onE hKK ?_
  first | refine K.d_skip rfl rfl rfl rfl ?_ | refine K.d_skipU rfl rfl rfl rfl rfl ?_ | refine K.d_puG rfl rfl rfl (fun _ _ => X.nt) rfl ?_
  refine K.d_pu rfl (fun _ _ => X.pk) rfl ?_
  refine K.d_nil ?_
  (repeat' first | refine X.rq ?_ | refine X.rc ?_ ?_ <;> intro hc <;> try omega)
  refine K.a_round hKL (j + 1) (by omega) (by repeat (first | exact K.Sub.nil _ | refine K.Sub.cons rfl ?_)) rfl rfl (by omega)
 ·(repeat' first | refine X.rq ?_ | refine X.rc ?_ ?_ <;> intro hc <;> try omega)
  refine K.done (by first | exact Or.inl rfl | exact Or.inr rfl) rfl (by first | exact K.Base.le.refl _ | assumption) (H' := []) rfl ⟨rfl, rfl, rfl⟩
theorem SEndA (h : Base) (s : Nat) (M : SM) (S : Lg) (rs : List Recd) (hr : RowsG (RecC h) M.es rs) (ho : LgOk S) : TrV Tryz.prog 50 [pv s] h (stA s M S rs ++ []) (n64 (endQ S)) (stA s M S rs ++ []) :=
 K.TrV.borrow fun h' hle hs => SEndB h' s S rs (stB_of hs hle hr) ho
theorem SRoomA (h : Base) (s : Nat) (M : SM) (S : Lg) (rs : List Recd) (hr : RowsG (RecC h) M.es rs) (ho : LgOk S) : TrV Tryz.prog 51 [pv s] h (stA s M S rs ++ []) (.int .i64 (roomQ S)) (stA s M S rs ++ []) :=
 K.TrV.borrow fun h' hle hs => SRoomB h' s S rs (stB_of hs hle hr) ho
theorem SPlacedA (h : Base) (s : Nat) (M : SM) (S : Lg) (rs : List Recd) (x : Nat) (hr : RowsG (RecC h) M.es rs) (hl : S.starts.length ≤ 1000000000) : TrV Tryz.prog 53 [pv s, n64 x] h (stA s M S rs ++ []) (.bool (decide (x ∈ S.starts ∧ x < S.durable))) (stA s M S rs ++ []) :=
 K.TrV.borrow fun h' hle hs => SPlacedB h' s S rs x (stB_of hs hle hr) hl
theorem STellsA (h : Base) (s p d : Nat) (M : SM) (W : LM) (L : Lg) (rs : List Recd) (hr : RowsG (RecC h) M.es rs) (ho : LgOk L) (hs : StrOk h W L.stream) : TrV Tryz.prog 27 [pv s, pv p] h (stA s M L rs ++ lgA p d W L) (.bool true) (stA s M L rs ++ lgA p d W L) :=
 K.TrV.borrow fun h' hle hss => STellsB h' s p d W L rs (stB_of hss hle hr) ho (hs.le hle)
theorem SFoundA (h : Base) (s : Nat) (M : SM) (S : Lg) (rs l : List Recd) (sv : Value) (hr : RowsG (RecC h) M.es rs) (hl : RecsV h sv l) (hf : FoP S rs l) (hn : rs.length ≤ 1000000000) : TrV Tryz.prog 31 [pv s, sv] h (stA s M S rs ++ []) (.bool true) (stA s M S rs ++ []) :=
 K.TrV.borrow fun h' hle hs => SFoundB h' s S rs l sv (stB_of hs hle hr) (hl.le hle) hf hn
theorem SImageA (h : Base) (s : Nat) (M : SM) (S : Lg) (rs : List Recd) (up : Nat) (hr : RowsG (RecC h) M.es rs) (hm : MasOk S.m) (hw : S.m.wiped = false) (hu : up ≤ S.stream.length) (hl : S.stream.length ≤ 100000000) :
  Tr Tryz.prog 30 [pv s, .int .i64 up] h (stA s M S rs ++ []) (fun u h1 H1 => h1 = h ∧ ∃ H2, H1 = stA s M S rs ++ H2 ∧ ∃ a cap, u = bufV a (imageQ S.m (S.stream.take up) S.m.n).length cap ∧ H2 = [bufA 5 1 a (imageQ S.m (S.stream.take up) S.m.n).length cap ((imageQ S.m (S.stream.take up) S.m.n).map u8)]) :=
 K.Tr.borrow (Q := fun u H2 => ∃ a cap, u = bufV a (imageQ S.m (S.stream.take up) S.m.n).length cap ∧ H2 = [bufA 5 1 a (imageQ S.m (S.stream.take up) S.m.n).length cap ((imageQ S.m (S.stream.take up) S.m.n).map u8)]) fun h' hle hs => trMono (SImageB h' s S rs up (stB_of hs hle hr) hm hw hu hl) fun v h1 H1 _ ⟨e, hq⟩ => ⟨e.symm, hq⟩
end Go.Proofs.YtmcdaegaopfihaaGreat.Wl
