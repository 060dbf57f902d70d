/-
 PoolNobody, walked. Conditions: each theorem's own.
-/
import Derived.Test.YtijbhgiigddjdaaGreatPA41
import Derived.Test.YtijbhgiigddjdaaGreatPA47
namespace Go.Proofs.YtijbhgiigddjdaaGreat.Pl
open Go Go.K Go.Proofs Go.Proofs.YtijbhgiigddjdaaGreat Go.Proofs.YtijbhgiigddjdaaGreat.Pg Go.Proofs.YtijbhgiigddjdaaGreat.Wl
set_option linter.unusedVariables false
set_option linter.unusedSimpArgs false
set_option maxRecDepth 10000

set_option maxHeartbeats 16000000 in
theorem PoolNobodyW (h : Base) (v : Value) (l : List PAct) (n : Int) (hv : ActsV h v l) (hl : l.length ≤ 9223372036854775807) (hn : in64 n) :
  Tr Tryz.prog 4 [v, .int .i64 n] h [] (fun u h' H' => u = .bool true ∧ H' = []) := by
 have hlong := LLong h v l hv hl
 obtain ⟨es, hv, hel, hr⟩ := hv
 obtain ⟨ao, ca, rfl⟩ := hv.len
 rw [hel] at hv hlong ⊢
 refine K.enter Tryz.func4 rfl (Nat.le_of_ble_eq_true rfl) (fun F => ?_)
 simp only [List.nil_append]
 (repeat' first | refine X.rq ?_ | refine X.rc ?_ ?_ <;> intro hc <;> try omega)
 refine K.l_call (Fx.cal rfl) rfl hlong (K.pp [] rfl) rfl ?_
 rintro u h' H' - ⟨e, rfl, b, rfl, hb⟩
 obtain rfl := e.symm
 simp only [List.nil_append]
 cases b with
 | true =>
  (repeat' first | refine X.rq ?_ | refine X.rc ?_ ?_ <;> intro hc <;> try omega)
  refine K.l_call (Fx.cal rfl) rfl (QAlive h) (K.pp [] rfl) rfl ?_
  rintro u h' H' hle ⟨rfl, rfl⟩
  (repeat' first | refine X.rq ?_ | refine X.rc ?_ ?_ <;> intro hc <;> try omega)
  exact K.done (vs := [.bool true]) (by first | exact Or.inl rfl | exact Or.inr rfl) rfl hle (H' := []) rfl ⟨rfl, rfl⟩
 | false =>
  obtain ⟨hl2, hfew⟩ := hb rfl
  clear hlong hb hfew
  (repeat' first | refine X.rq ?_ | refine X.rc ?_ ?_ <;> intro hc <;> try omega)
  refine K.l_box rfl rfl rfl (fun q => ?_)
  refine X.bs (fun B2 => ?_)
  refine K.WL.bufOf (m := 2) (s := 1) rfl (by unfold maxLen; omega) ?_
  refine K.WL.freezeRowN (es := [Value.pointer none, pv q].map fun f => [f]) rfl (fun e he => by obtain ⟨n, _, rfl⟩ := List.mem_map.1 he; rfl) (fun h2 le2 hs2 => ?_)
  have hv := hv.le le2
  have hr : ∀ (j : Nat) c x, es[j]? = some c → l[j]? = some x → ActC h2 c x := fun j c x h1 h3 => (hr j c x h1 h3).le le2
  (repeat' first | refine X.rq ?_ | refine X.rc ?_ ?_ <;> intro hc <;> try omega)
  refine K.c_loop (σ := Nat) (fun k => [(0, .slice ao l.length ca), (1, .int .i64 n), (6, bufV (some B2) 2 2), (7, .int .i64 k)]) (fun _ => h2) (fun _ => blk q 55 poZ :: F)
   (fun k => k ≤ 2) (fun k => 2 - k) 0 (Nat.zero_le _) (by repeat (first | exact K.Sub.nil _ | refine K.Sub.cons rfl ?_)) rfl rfl ?_
  rintro k hk KL hKL
  by_cases hk2 : k < 2
  ·obtain ⟨vk, hk0, hN⟩ : ∃ vk, ([Value.pointer none, pv q].map fun f => [f])[((k : Nat) : Int).toNat]? = some [vk] ∧ Nob q vk := by
    match k, hk2 with
    | 0, _ => exact ⟨_, rfl, .inl rfl⟩
    | 1, _ => exact ⟨_, rfl, .inr rfl⟩
   (repeat' first | refine X.rq ?_ | refine X.rc ?_ ?_ <;> intro hc <;> try omega)
   refine K.c_loop (σ := Nat) (fun j => [(0, .slice ao l.length ca), (1, .int .i64 n), (6, bufV (some B2) 2 2), (7, .int .i64 k), (8, .int .i64 j)]) (fun _ => h2) (fun _ => blk q 55 poZ :: F)
    (fun j => j ≤ l.length) (fun j => l.length - j) 0 (Nat.zero_le _) (by repeat (first | exact K.Sub.nil _ | refine K.Sub.cons rfl ?_)) rfl rfl ?_
   rintro j hj KM hKM
   by_cases hjl : j < l.length
   ·have hc1 : es[j]? = some (es[j]'(by omega)) := List.getElem?_eq_getElem (by omega)
    have hc0 : es[((j : Nat) : Int).toNat]? = some (es[j]'(by omega)) := by rw [Int.toNat_natCast]; exact hc1
    have he1 : l[j]? = some (l[j]'hjl) := List.getElem?_eq_getElem hjl
    generalize es[j]'(by omega) = c at hc0 hc1
    generalize l[j]'hjl = x at he1
    obtain ⟨hi1, hi2, hi3, cs, rfl, hpg⟩ := hr j c x hc1 he1
    obtain ⟨hwp, cv, rfl, hcv⟩ := hpg
    have hpg : PagC h2 (cP x.to cv) x.to := ⟨hwp, cv, rfl, hcv⟩
    have hG := NGet h2 q vk hN x.page hi2
    have hPt := NPut h2 q vk hN x.page hi2 _ x.to hpg
    have hzr := LZero h2 _ (⟨0, 0, 0, []⟩ : Pag) (pagC0 h2 ⟨0, 0, 0, []⟩ rfl wfZ none 0)
    unfold nobA at hG hPt
    unfold zV at hG
    (repeat' first | refine X.rq ?_ | refine X.rc ?_ ?_ <;> intro hc <;> try omega)
    refine X.drawJ (_) [] (.pu 0 (.pu 1 (.pu 4 (.pu 5 (.st 2 (.st 3 (.st 6 (.pu 7 (.st 8 (.alt 9 (.pu 10 (.pu 11 (.pu 12 (.on 13 (.on 14 (.pu 15 .nil)))))) (.on 13 (.on 9 (.pu 10 (.pu 11 (.pu 12 (.on 14 (.pu 15 .nil))))))))))))))))) (fun B : Nat => [(0, .slice ao l.length ca), (1, .int .i64 n), (6, bufV (some B2) 2 2), (7, .int .i64 k), (8, .int .i64 j), (9, .pointer (some ⟨B, 0, none⟩)), (10, .int .i64 2)]) (fun _ => h2) (fun B => blk B 41 (cP ⟨0, 0, 0, []⟩ (.slice none 0 0)) :: blk q 55 poZ :: F) ?_ ?_
    ·refine K.d_pu rfl (fun _ _ => X.mv) rfl ?_
     refine K.d_pu rfl (fun _ _ => X.mv) rfl ?_
     refine K.d_pu rfl (fun _ _ => X.mv) rfl ?_
     refine K.d_pu rfl (fun _ _ => X.mv) rfl ?_
     refine K.d_stE rfl (K.p_indexL hs2 (Fx.und rfl) (Fx.sz rfl) rfl rfl (by omega) hk0) rfl ?_
     rintro v2 ⟨b2, o2, rfl, hcel2⟩
     refine K.d_st rfl (K.p_load (v := vk) (Fx.agg rfl) rfl (K.Cel.up hcel2.1)) rfl ?_
     refine K.d_stE rfl (K.p_indexL hv (Fx.und rfl) (Fx.sz rfl) rfl rfl (by omega) hc0) rfl ?_
     rintro v6 ⟨b6, o6, rfl, hcel6⟩
     refine K.d_pu rfl (fun _ _ => X.fa) rfl ?_
     refine K.d_st rfl (K.p_load (v := .int .u32 x.page) (Fx.agg rfl) rfl (K.Cel.up hcel6.2.1)) rfl ?_
     refine K.d_alt ?_ ?_
     ·refine K.d_on rfl (fun KK hKK => ?_)
      refine K.l_callV (Fx.cal rfl) rfl hG (K.pp [0] rfl) rfl rfl ?_
      simp only [List.cons_append, List.nil_append]
      simp only [Go.K.nmz]
      refine K.l_nil ?_
      refine X.onE hKK ?_
      refine K.d_pu rfl (fun _ _ => X.mv) rfl ?_
      refine K.d_pu rfl (fun _ _ => X.ex) rfl ?_
      refine K.d_pu rfl (fun _ _ => X.ex) rfl ?_
      refine K.d_on rfl (fun KK hKK => ?_)
      refine K.l_alloc (Fx.zr rfl) rfl rfl (fun B13 => ?_)
      refine K.l_nil ?_
      refine X.onE hKK ?_
      refine K.d_on rfl (fun KK hKK => ?_)
      refine X.stw ?_
      simp only [Go.K.nmz]
      refine K.l_nil ?_
      refine X.onE hKK ?_
      refine K.d_pu rfl (fun _ _ => X.sg) rfl ?_
      refine K.d_nil ?_
      exact K.joined B13 (by repeat (first | exact K.Sub.nil _ | refine K.Sub.cons rfl ?_)) rfl rfl
     refine K.d_on rfl (fun KK hKK => ?_)
     refine K.l_alloc (Fx.zr rfl) rfl rfl (fun B13 => ?_)
     refine K.l_nil ?_
     refine X.onE hKK ?_
     refine K.d_on rfl (fun KK hKK => ?_)
     refine K.l_callV (Fx.cal rfl) rfl hG (K.pp [1] rfl) rfl rfl ?_
     simp only [List.cons_append, List.nil_append]
     simp only [Go.K.nmz]
     refine K.l_nil ?_
     refine X.onE hKK ?_
     refine K.d_pu rfl (fun _ _ => X.mv) rfl ?_
     refine K.d_pu rfl (fun _ _ => X.ex) rfl ?_
     refine K.d_pu rfl (fun _ _ => X.ex) rfl ?_
     refine K.d_on rfl (fun KK hKK => ?_)
     refine X.stw ?_
     simp only [Go.K.nmz]
     refine K.l_nil ?_
     refine X.onE hKK ?_
     refine K.d_pu rfl (fun _ _ => X.sg) rfl ?_
     refine K.d_nil ?_
     refine K.AT.perm (K.pp [1] rfl) ?_
     exact K.joined B13 (by repeat (first | exact K.Sub.nil _ | refine K.Sub.cons rfl ?_)) rfl rfl
    refine fun B9 => ?_
    (repeat' first | refine X.rq ?_ | refine X.rc ?_ ?_ <;> intro hc <;> try omega)
    refine X.draw ([blk B9 41 (cP ⟨0, 0, 0, []⟩ (.slice none 0 0))]) [] (.st 0 (.on 1 (.pu 2 (.pu 3 (.pu 4 (.pu 5 (.pu 6 (.pu 7 (.pu 8 (.pu 9 (.pu 12 (.pu 13 (.pu 17 (.pu 18 (.st 10 (.st 11 (.st 14 (.pu 15 (.st 16 (.st 19 (.pu 20 (.st 21 (.on 22 (.pu 23 (.pu 24 .nil))))))))))))))))))))))))) ?_ (hQ := by repeat (first | with_reducible refine K.NoPanic.then ?_ | with_reducible refine K.NoPanic.inBlock ?_ | with_reducible exact K.post_noPanic _ _ | exact K.post_noPanic _ _ | exact K.QN_noPanic | exact K.postS_noPanic | exact K.postX_noPanic | exact K.RPX_noPanic))
    refine K.d_st rfl X.ld rfl ?_
    refine K.d_on rfl (fun KK hKK => ?_)
    refine K.l_callV (Fx.cal rfl) rfl hzr (K.pp [] rfl) rfl rfl ?_
    refine K.l_nil ?_
    refine X.onE hKK ?_
    refine K.d_pu rfl (fun _ _ => X.nt) rfl ?_
    refine K.d_pu rfl (fun _ _ => X.mv) rfl ?_
    first | refine K.d_skip rfl rfl rfl rfl ?_ | refine K.d_skipU rfl rfl rfl rfl rfl ?_ | refine K.d_puG rfl rfl rfl (fun _ _ => X.mv) rfl ?_
    first | refine K.d_skip rfl rfl rfl rfl ?_ | refine K.d_skipU rfl rfl rfl rfl rfl ?_ | refine K.d_puG rfl rfl rfl (fun _ _ => X.bneq) rfl ?_
    refine K.d_pu rfl (fun _ _ => X.pk) rfl ?_
    refine K.d_pu rfl (fun _ _ => X.mv) rfl ?_
    first | refine K.d_skip rfl rfl rfl rfl ?_ | refine K.d_skipU rfl rfl rfl rfl rfl ?_ | refine K.d_puG rfl rfl rfl (fun _ _ => X.mv) rfl ?_
    first | refine K.d_skip rfl rfl rfl rfl ?_ | refine K.d_skipU rfl rfl rfl rfl rfl ?_ | refine K.d_puG rfl rfl rfl (fun _ _ => X.mv) rfl ?_
    first | refine K.d_skip rfl rfl rfl rfl ?_ | refine K.d_skipU rfl rfl rfl rfl rfl ?_ | refine K.d_puG rfl rfl rfl (fun _ _ => X.mv) rfl ?_
    first | refine K.d_skip rfl rfl rfl rfl ?_ | refine K.d_skipU rfl rfl rfl rfl rfl ?_ | refine K.d_puG rfl rfl rfl (fun _ _ => X.mv) rfl ?_
    first | refine K.d_skip rfl rfl rfl rfl ?_ | refine K.d_skipU rfl rfl rfl rfl rfl ?_ | refine K.d_puG rfl rfl rfl (fun _ _ => X.mv) rfl ?_
    first | refine K.d_skip rfl rfl rfl rfl ?_ | refine K.d_skipU rfl rfl rfl rfl rfl ?_ | refine K.d_puG rfl rfl rfl (fun _ _ => X.mv) rfl ?_
    refine K.d_stGE rfl rfl rfl (K.p_indexL hs2 (Fx.und rfl) (Fx.sz rfl) rfl rfl (by omega) hk0) rfl ?_
    rintro v2 ⟨b2, o2, rfl, hcel2⟩
    refine K.d_stG rfl rfl rfl (K.p_load (v := vk) (Fx.agg rfl) rfl (K.Cel.up hcel2.1)) rfl ?_
    refine K.d_stGE rfl rfl rfl (K.p_indexL hv (Fx.und rfl) (Fx.sz rfl) rfl rfl (by omega) hc0) rfl ?_
    rintro v6 ⟨b6, o6, rfl, hcel6⟩
    first | refine K.d_skip rfl rfl rfl rfl ?_ | refine K.d_skipU rfl rfl rfl rfl rfl ?_ | refine K.d_puG rfl rfl rfl (fun _ _ => X.fa) rfl ?_
    refine K.d_stG rfl rfl rfl (K.p_load (v := .int .u32 x.page) (Fx.agg rfl) rfl (K.Cel.up hcel6.2.1)) rfl ?_
    refine K.d_stGE rfl rfl rfl (K.p_indexL hv (Fx.und rfl) (Fx.sz rfl) rfl rfl (by omega) hc0) rfl ?_
    rintro v7 ⟨b7, o7, rfl, hcel7⟩
    have hcr : Cels h2 [] b7 (o7 + 2) (cP x.to cv) := Cels.take 4 (Cels.drop 2 (by simp [cP]) hcel7)
    first | refine K.d_skip rfl rfl rfl rfl ?_ | refine K.d_skipU rfl rfl rfl rfl rfl ?_ | refine K.d_puG rfl rfl rfl (fun _ _ => X.fa) rfl ?_
    refine K.d_stG rfl rfl rfl (K.p_loadM (vs := cP x.to cv) (Fx.agg rfl) rfl (Cels.up hcr) (Fx.sz rfl) rfl) rfl ?_
    refine K.d_on rfl (fun KK hKK => ?_)
    refine K.s_take rfl rfl ?_
    refine K.l_callV (Fx.cal rfl) rfl hPt (K.pp [1] rfl) rfl rfl ?_
    simp only [List.cons_append, List.nil_append]
    simp only [Go.K.nmz]
    refine K.l_nil ?_
    refine X.onE hKK ?_
    first | refine K.d_skip rfl rfl rfl rfl ?_ | refine K.d_skipU rfl rfl rfl rfl rfl ?_ | refine K.d_puG rfl rfl rfl (fun _ _ => X.bneq) rfl ?_
    refine K.d_pu rfl (fun _ _ => X.pk) rfl ?_
    refine K.d_nil ?_
    (repeat' first | refine X.rq ?_ | refine X.rc ?_ ?_ <;> intro hc <;> try omega)
    refine K.AT.sel [1] rfl ?_
    simp only [Go.K.nmz]
    refine K.a_round hKM (j + 1) (by omega) (by repeat (first | exact K.Sub.nil _ | refine K.Sub.cons rfl ?_)) rfl rfl (by omega)
   obtain rfl : j = l.length := by omega
   clear hKM
   obtain ⟨b9, o9, e9, hck⟩ := SL.at (ao := some ⟨B2, 0, none⟩) (la := 2) (ca := 2) hs2 (j := k) (c := [vk]) (by rw [Int.toNat_natCast] at hk0; exact hk0)
   cases e9
   have hck := K.Cel.up (K := blk q 55 poZ :: F) hck.1
   rw [Nat.zero_add, Nat.mul_one] at hck
   (repeat' first | refine X.rq ?_ | refine X.rc ?_ ?_ <;> intro hc <;> try omega)
   refine K.l_callV (Fx.cal rfl) rfl (NPages _ q vk hN) (K.pp [0] rfl) rfl rfl ?_
   unfold nobA
   simp only [List.cons_append, List.nil_append]
   simp only [Go.K.nmz]
   (repeat' first | refine X.rq ?_ | refine X.rc ?_ ?_ <;> intro hc <;> try omega)
   refine K.l_callV (Fx.cal rfl) rfl (NDirty _ q vk hN) (K.pp [0] rfl) rfl rfl ?_
   unfold nobA
   simp only [List.cons_append, List.nil_append]
   simp only [Go.K.nmz]
   (repeat' first | refine X.rq ?_ | refine X.rc ?_ ?_ <;> intro hc <;> try omega)
   refine K.l_callV (Fx.cal rfl) rfl (NFlush _ q vk hN) (K.pp [0] rfl) rfl rfl ?_
   unfold nobA
   simp only [List.cons_append, List.nil_append]
   simp only [Go.K.nmz]
   (repeat' first | refine X.rq ?_ | refine X.rc ?_ ?_ <;> intro hc <;> try omega)
   all_goals try (exfalso; omega)
   refine K.a_round hKL (k + 1) (by omega) (by repeat (first | exact K.Sub.nil _ | refine K.Sub.cons rfl ?_)) rfl rfl (by omega)
  ·obtain rfl : k = 2 := by omega
   refine K.WC.drop ?_
   clear hKL
   (repeat' first | refine X.rq ?_ | refine X.rc ?_ ?_ <;> intro hc <;> try omega)
   refine K.l_call (Fx.cal rfl) rfl (Wl.New h2 ((17 : Nat) : Int) (by omega) (by omega)) (K.pp [] rfl) rfl ?_
   rintro u h1 H' - ⟨rfl, hne⟩
   rcases hne with ⟨_, _, d, M, rfl, rfl⟩ | ⟨hx, _⟩
   rotate_left
   ·exfalso; exact hx ⟨by omega, by omega⟩
   rw [Int.toNat_natCast]
   have k0 : DkOk (newDk 17) := newOk (by omega) (by omega)
   have kl0 : (newDk 17).kept.length = 17 := List.length_replicate
   obtain ⟨g0, g1, g2, g3⟩ := format_run (D := newDk 17) (n := 16) k0 rfl ⟨rfl, rfl⟩ (Nat.le_refl _) (by rw [kl0]; omega)
   have hF := Wl.Format h1 d M (newDk 17) ((16 : Nat) : Int) k0 (by show 0 + 10000 ≤ roomMax; decide)
   rw [g0] at hF
   rw [show ((16 : Nat) : Int) = 16 from rfl] at g0 g1 g2 g3 hF
   generalize (formatQ (16 : Int) (newDk 17)).2 = D1 at g1 g2 g3 hF
   (repeat' first | refine X.rq ?_ | refine X.rc ?_ ?_ <;> intro hc <;> try omega)
   refine K.l_call (Fx.cal rfl) rfl hF (K.pp [0, 0, 0] rfl) rfl ?_
   rintro u h3 H' le3 ⟨rfl, M3, -, rfl⟩
   (repeat' first | refine X.rq ?_ | refine X.rc ?_ ?_ <;> intro hc <;> try omega)
   refine K.l_call (Fx.cal rfl) rfl (Wl.Open _ d M3 D1 g3.ok (by rw [g3.cache]; decide)) (K.pp [0, 0, 0] rfl) rfl ?_
   rintro u h4 H' le4 ⟨r, D4, M4, H4, hop, rfl, hV⟩
   obtain ⟨g4, g5, L4, rfl, g6, gm⟩ := open_run g3 g1 hop
   obtain ⟨l4, W, sv, rfl, hrs, hst, rfl⟩ := hV
   obtain ⟨es4, hs4, he4, _⟩ := hrs
   obtain ⟨a4, c4, rfl⟩ := hs4.len
   have gm : L4.m = master0 16 := gm
   have gn : L4.m.n = 16 := by rw [gm]; rfl
   have hlen : D4.kept.length = 17 := by rw [g5, g2, kl0]
   have hpq : pagesQ L4 D4 = 0 := by unfold pagesQ; rw [hlen, gn]; rfl
   have hN1 := QNew h4 d l4 W L4 M4 D4 n (by rw [hlen]; omega) (by rw [gn]; decide) (by rw [gn]; decide)
   have hN2 := NewNoDisk h4 d l4 W L4 n (by rw [gn]; decide)
   simp only [List.cons_append, List.nil_append, List.append_assoc]
   (repeat' first | refine X.rq ?_ | refine X.rc ?_ ?_ <;> intro hc <;> try omega)
   refine K.l_call (Fx.cal rfl) rfl hN1 (K.pp [0, 0, 0, 0, 0, 0] rfl) rfl ?_
   rintro u h' H' - ⟨e, hN3⟩
   obtain rfl := e.symm
   rcases hN3 with ⟨_, _, hx, _⟩ | ⟨_, rfl, rfl⟩
   ·exfalso; omega
   unfold lgA dkA at *
   simp only [List.cons_append, List.nil_append, List.append_assoc] at *
   (repeat' first | refine X.rq ?_ | refine X.rc ?_ ?_ <;> intro hc <;> try omega)
   refine K.l_callV (Fx.cal rfl) rfl hN2 (K.pp [0, 0, 0] rfl) rfl rfl ?_
   simp only [List.cons_append, List.nil_append]
   simp only [Go.K.nmz]
   (repeat' first | refine X.rq ?_ | refine X.rc ?_ ?_ <;> intro hc <;> try omega)
   refine K.l_callV (Fx.cal rfl) rfl (NewNoLog h4 (dv d) n _) (K.pp [0] rfl) rfl rfl ?_
   simp only [List.cons_append, List.nil_append]
   simp only [Go.K.nmz]
   (repeat' first | refine X.rq ?_ | refine X.rc ?_ ?_ <;> intro hc <;> try omega)
   refine K.l_call (Fx.cal rfl) rfl (QAlive _) (K.pp [] rfl) rfl ?_
   rintro u h9 H' le9 ⟨rfl, rfl⟩
   simp only [List.nil_append]
   (repeat' first | refine X.rq ?_ | refine X.rc ?_ ?_ <;> intro hc <;> try omega)
   exact K.doneC (vs := [.bool true]) (by first | exact Or.inl rfl | exact Or.inr rfl) (.tmp rfl .nil) (le2.trans (le3.trans (le4.trans le9))) (D := [_, _, _, _, _, _]) (H' := []) rfl ⟨rfl, rfl⟩
end Go.Proofs.YtijbhgiigddjdaaGreat.Pl
