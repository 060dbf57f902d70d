/-
 The disk: written, synced, cut, its image. Conditions: each theorem's own.
-/
import Derived.Test.YtmcdaegaopfihaaGreatZ11
namespace Go.Proofs.YtmcdaegaopfihaaGreat.Wl
open Go Go.K Go.Proofs Go.Proofs.YtmcdaegaopfihaaGreat
set_option linter.unusedVariables false
set_option linter.unusedSimpArgs false
set_option maxRecDepth 10000

/-! ### Write -/
def writeQ (D : Dk) (at_ : Int) (b : Sec) : Int × Dk := if at_ < 0 ∨ (D.kept.length : Int) ≤ at_ then (2, D) else if b.length ≠ 512 then (1, D) else if (goesQ D).1 then (0, { (goesQ D).2 with cache := D.cache ++ [(at_.toNat, b)] }) else (8, (goesQ D).2)
theorem build_lo (l : Loo) (h : l.2.length = 512) : fillL [(0, 1), (1, 512)] (.int .i64 0 :: nul 512) [(0, .int .i64 l.1), (1, .agg (seB l.2).toArray)] = some (loB l) := by
 have h5 : (seB l.2).length = 512 := by rw [seB_len, h]
 have e1 : (Value.agg (seB l.2).toArray).cells.toList = seB l.2 := rfl
 have e2 : (Value.int .i64 (l.1 : Int)).cells.toList = [Value.int .i64 (l.1 : Int)] := rfl
 have e3 : overL (.int .i64 0 :: nul 512) 0 [.int .i64 (l.1 : Int)] = .int .i64 (l.1 : Int) :: nul 512 := rfl
 have e4 : overL (.int .i64 (l.1 : Int) :: nul 512) 1 (seB l.2) = loB l := by
  unfold overL
  rw [h5, List.drop_of_length_le (by rw [List.length_cons, nul_len]; omega), List.append_nil]
  rfl
 simp only [fillL, List.getElem?_cons_zero, List.getElem?_cons_succ, e1, e2, e3, h5, List.length_cons, nul_len, e4]
 rfl
theorem BV.cels {h : Base} {ao : Option Addr} {n c : Nat} {l : List UInt8} (hb : BV h (.slice ao n c) l) (h0 : 0 < l.length) : n = l.length ∧ ∃ b o, ao = some ⟨b, o, none⟩ ∧ Cels h [] b o (l.map u8) := by
 rcases hb with ⟨_, _, _, rfl⟩ | ⟨b, o, c', e, _, hc⟩
 ·cases h0
 ·cases e; exact ⟨rfl, b, o, rfl, hc⟩
set_option maxHeartbeats 2000000 in
theorem Write (h : Base) (d : Nat) (M : DM) (D : Dk) (at_ : Int) (v : Value) (b : Sec) (hk : DkOk D) (ha1 : -9223372036854775808 ≤ at_) (ha2 : at_ ≤ 9223372036854775807) (hb : BV h v b) (hbl : b.length ≤ 9223372036854775807) :
  Tr Tryz.prog 34 [dv d, .int .i64 at_, v] h (dkA d M D) (fun u h' H' => u = .int .i64 (writeQ D at_ b).1 ∧ ∃ ac cap c, H' = dkA d { M with ac := ac, cap := cap, c2 := c } (writeQ D at_ b).2) := by
 have hp := hk.pos
 have hf := hk.few
 have hgo := Goes h d M D hk
 have hse := Sectors h d M D
 have hb0 := hb
 obtain ⟨ao, ca, rfl⟩ := hb.len
 refine K.enter Tryz.func34 rfl (Nat.le_of_ble_eq_true rfl) (fun F => ?_)
 by_cases hr : at_ < 0 ∨ (D.kept.length : Int) ≤ at_
 ·have er : writeQ D at_ b = (2, D) := by unfold writeQ; rw [if_pos hr]
  rw [er]
  by_cases h0 : at_ < 0
  ·(repeat' first | refine X.rq ?_ | refine X.rc ?_ ?_ <;> intro hc <;> try omega)
   all_goals try (exfalso; omega)
   exact K.done (vs := [.int .i64 2]) (by first | exact Or.inl rfl | exact Or.inr rfl) rfl (K.Base.le.refl _) (H' := dkA d M D) rfl ⟨rfl, M.ac, M.cap, M.c2, rfl⟩
  ·(repeat' first | refine X.rq ?_ | refine X.rc ?_ ?_ <;> intro hc <;> try omega)
   all_goals try (exfalso; omega)
   refine K.l_callV (Fx.cal rfl) rfl hse (K.pp [0, 0, 0] rfl) rfl rfl ?_
   (repeat' first | refine X.rq ?_ | refine X.rc ?_ ?_ <;> intro hc <;> try omega)
   all_goals try (exfalso; omega)
   exact K.done (vs := [.int .i64 2]) (by first | exact Or.inl rfl | exact Or.inr rfl) rfl (K.Base.le.refl _) (H' := dkA d M D) rfl ⟨rfl, M.ac, M.cap, M.c2, rfl⟩
 obtain ⟨a, rfl⟩ : ∃ a : Nat, at_ = (a : Int) := ⟨at_.toNat, by omega⟩
 have hal : a < D.kept.length := by omega
 (repeat' first | refine X.rq ?_ | refine X.rc ?_ ?_ <;> intro hc <;> try omega)
 all_goals try (exfalso; omega)
 refine K.l_callV (Fx.cal rfl) rfl hse (K.pp [0, 0, 0] rfl) rfl rfl ?_
 by_cases hb5 : b.length = 512
 rotate_left
 ·have er : writeQ D (a : Int) b = (1, D) := by unfold writeQ; rw [if_neg hr, if_pos hb5]
  rw [er]
  (repeat' first | refine X.rq ?_ | refine X.rc ?_ ?_ <;> intro hc <;> try omega)
  all_goals try (exfalso; omega)
  exact K.done (vs := [.int .i64 1]) (by first | exact Or.inl rfl | exact Or.inr rfl) rfl (K.Base.le.refl _) (H' := dkA d M D) rfl ⟨rfl, M.ac, M.cap, M.c2, rfl⟩
 (repeat' first | refine X.rq ?_ | refine X.rc ?_ ?_ <;> intro hc <;> try omega)
 all_goals try (exfalso; omega)
 refine K.l_call (Fx.cal rfl) rfl hgo (K.pp [0, 0, 0] rfl) rfl ?_
 rintro u h1 H' - ⟨e, rfl, rfl⟩
 obtain rfl := e.symm
 have hk1 := hk.goes
 obtain ⟨ek, ec⟩ := goes_kept D
 cases hg : (goesQ D).1 with
 | false =>
  have er : writeQ D (a : Int) b = (8, (goesQ D).2) := by unfold writeQ; rw [if_neg hr, if_neg (by omega), hg]; rfl
  rw [er]
  (repeat' first | refine X.rq ?_ | refine X.rc ?_ ?_ <;> intro hc <;> try omega)
  exact K.done (vs := [.int .i64 8]) (by first | exact Or.inl rfl | exact Or.inr rfl) rfl (K.Base.le.refl _) (H' := dkA d M (goesQ D).2) rfl ⟨rfl, M.ac, M.cap, M.c2, rfl⟩
 | true =>
  have er : writeQ D (a : Int) b = (0, { (goesQ D).2 with cache := D.cache ++ [(a, b)] }) := by unfold writeQ; rw [if_neg hr, if_neg (by omega), hg, Int.toNat_natCast]; rfl
  rw [er, ← ec]
  rw [← ek] at hal
  clear hgo hse hp hf hr er ek ec hk hg
  generalize (goesQ D).2 = D1 at *
  have hlo := lo_513 hk1
  have hsz := se_512 hk1
  have hroom := hk1.room
  have hf := hk1.few
  obtain ⟨kept, cache, trip, dark⟩ := D1
  obtain ⟨bk, ac, cap, c1, c2, c3⟩ := M
  dsimp only at hal hlo hsz hroom hf ⊢
  unfold dkA dkV keptA cacheA
  simp only [List.cons_append, List.nil_append]
  obtain ⟨_, bb, oo, rfl, hcel⟩ := BV.cels hb0 (by omega)
  have hb6 : (List.map u8 b).length = 512 := by rw [List.length_map, hb5]
  have hl5 : (loB (a, b)).length = 513 := by rw [loB_len]; show b.length + 1 = 513; omega
  (repeat' first | refine X.rq ?_ | refine X.rc ?_ ?_ <;> intro hc <;> try omega)
  refine X.sto ?_
  simp only [Go.K.nmz]
  (repeat' first | refine X.rq ?_ | refine X.rc ?_ ?_ <;> intro hc <;> try omega)
  refine X.draw ([blk d 109 [bufV (some bk) kept.length kept.length, bufV ac cache.length cap, .int .i64 trip, .bool dark, .int .i64 c1, .int .i64 (IntKind.i64.wrap (c2 + 1)), .int .i64 c3]]) [14] (.pu 0 (.pu 1 (.pu 2 (.pu 3 (.pu 5 (.pu 6 (.pu 7 (.st 4 (.st 8 (.pu 9 (.on 10 (.on 11 (.pu 12 (.pu 13 (.cl 14 .nil))))))))))))))) ?_ (hQ := by repeat (first | with_reducible refine K.NoPanic.then ?_ | with_reducible refine K.NoPanic.inBlock ?_ | with_reducible exact K.post_noPanic _ _ | exact K.post_noPanic _ _ | exact K.QN_noPanic | exact K.postS_noPanic | exact K.postX_noPanic | exact K.RPX_noPanic))
  refine K.d_pu rfl (fun _ _ => X.mv) rfl ?_
  refine K.d_pu rfl (fun _ _ => X.mv) rfl ?_
  refine K.d_pu rfl (fun _ _ => X.nc) rfl ?_
  refine K.d_pu rfl (fun _ _ => X.fa) rfl ?_
  refine K.d_pu rfl (fun _ _ => X.mv) rfl ?_
  refine K.d_pu rfl (fun _ _ => X.mv) rfl ?_
  refine K.d_pu rfl (fun _ _ => K.p_arrAt (m := 512) (Fx.und rfl) rfl (show 512 ≤ b.length by omega)) rfl ?_
  refine K.d_st rfl X.ld rfl ?_
  refine K.d_st rfl (K.p_loadM (Fx.agg rfl) rfl (Cels.up hcel) (Fx.sz rfl) hb6) rfl ?_
  refine K.d_pu rfl (fun _ _ => K.p_build plL zrL rfl (build_lo (a, b) hb5)) rfl ?_
  refine K.d_on rfl (fun KK hKK => ?_)
  refine K.l_buildSlice (cs := loB (a, b)) (Fx.und rfl) (Fx.sz rfl) rfl zrL rfl rfl (by simp [seqOk, Value.cells, hl5]) (by simp [cellsL, Value.cells]) rfl (fun B9 => ?_)
  refine K.l_nil ?_
  refine X.onE hKK ?_
  refine K.d_on rfl (fun KK hKK => ?_)
  refine K.l_append_at 3 rfl (Fx.und rfl) (Fx.und rfl) rfl (Fx.sz rfl) zrL rfl (Fx.byt rfl) rfl rfl (K.src_cells (m := 1) (K.cels_own (pre := []) (cs := loB (a, b)) (post := []) 0 (by rw [List.nil_append, List.append_nil]; rfl) rfl) (by rw [hl5]) (List.all_eq_true.1 (loB_ones (a, b)))) (by omega) (by omega) rfl (fun a' cap' => ?_)
  refine K.l_nil ?_
  refine X.onE hKK ?_
  refine K.d_pu rfl (fun _ _ => X.nc) rfl ?_
  refine K.d_pu rfl (fun _ _ => X.fa) rfl ?_
  refine K.d_cl rfl (fun KK hKK => ?_)
  refine X.sto ?_
  refine K.l_nil ?_
  refine K.d_clE hKK ?_
  refine K.d_nil ?_
  (repeat' first | refine X.rq ?_ | refine X.rc ?_ ?_ <;> intro hc <;> try omega)
  refine K.AT.drop ?_
  exact K.done (vs := [.int .i64 0]) (by first | exact Or.inl rfl | exact Or.inr rfl) rfl (K.Base.le.refl _) (H' := [_, _, _]) rfl ⟨rfl, a', cap', IntKind.i64.wrap (c2 + 1), by simp [dkA, dkV, keptA, cacheA]⟩
/-! ### Sync -/
def setL (kept : List Sec) (cache : List Loo) : List Sec := cache.foldl (fun k l => k.set l.1 l.2) kept
theorem setL_snoc (kept : List Sec) (cache : List Loo) (l : Loo) : setL kept (cache ++ [l]) = (setL kept cache).set l.1 l.2 := by unfold setL; rw [List.foldl_append]; rfl
theorem setL_len (kept : List Sec) : ∀ cache : List Loo, (setL kept cache).length = kept.length := by
 intro cache
 unfold setL
 induction cache generalizing kept with
 | nil => rfl
 | cons l r ih => rw [List.foldl_cons, ih, List.length_set]
theorem mem_set {α : Type} {k : List α} {i : Nat} {x y : α} (h : y ∈ k.set i x) : y = x ∨ y ∈ k := by
 rcases List.mem_or_eq_of_mem_set h with h | h
 ·exact .inr h
 ·exact .inl h
theorem setL_512 {kept : List Sec} (hk : ∀ s ∈ kept, s.length = 512) : ∀ {cache : List Loo}, (∀ l ∈ cache, l.2.length = 512) → ∀ s ∈ setL kept cache, s.length = 512 := by
 intro cache
 unfold setL
 induction cache generalizing kept with
 | nil => intro _; exact hk
 | cons l r ih =>
  intro hc
  rw [List.foldl_cons]
  refine ih (fun s hs => ?_) fun x hx => hc x (List.mem_cons_of_mem _ hx)
  rcases mem_set hs with rfl | hs
  ·exact hc l (List.mem_cons_self ..)
  ·exact hk s hs
def syncQ (D : Dk) : Int × Dk := if (goesQ D).1 then (0, { (goesQ D).2 with kept := setL D.kept D.cache, cache := [] }) else (8, (goesQ D).2)
set_option maxHeartbeats 2000000 in
theorem Sync (h : Base) (d : Nat) (M : DM) (D : Dk) (hk : DkOk D) :
  Tr Tryz.prog 36 [dv d] h (dkA d M D) (fun u h' H' => u = .int .i64 (syncQ D).1 ∧ ∃ c, H' = dkA d { M with c3 := c } (syncQ D).2) := by
 have hgo := Goes h d M D hk
 refine K.enter Tryz.func36 rfl (Nat.le_of_ble_eq_true rfl) (fun F => ?_)
 (repeat' first | refine X.rq ?_ | refine X.rc ?_ ?_ <;> intro hc <;> try omega)
 refine K.l_call (Fx.cal rfl) rfl hgo (K.pp [0, 0, 0] rfl) rfl ?_
 rintro u h1 H' - ⟨e, rfl, rfl⟩
 obtain rfl := e.symm
 have hk1 := hk.goes
 obtain ⟨ek, ec⟩ := goes_kept D
 cases hg : (goesQ D).1 with
 | false =>
  have er : syncQ D = (8, (goesQ D).2) := by unfold syncQ; rw [hg]; rfl
  rw [er]
  (repeat' first | refine X.rq ?_ | refine X.rc ?_ ?_ <;> intro hc <;> try omega)
  exact K.done (vs := [.int .i64 8]) (by first | exact Or.inl rfl | exact Or.inr rfl) rfl (K.Base.le.refl _) (H' := dkA d M (goesQ D).2) rfl ⟨rfl, M.c3, rfl⟩
 | true =>
  have er : syncQ D = (0, { (goesQ D).2 with kept := setL D.kept D.cache, cache := [] }) := by unfold syncQ; rw [hg]; rfl
  rw [er, ← ec, ← ek]
  clear hgo er ek ec hk hg
  generalize (goesQ D).2 = D1 at *
  have hlo := lo_513 hk1
  have hroom := hk1.room
  have hf := hk1.few
  have hlos := hk1.los
  have hsecs := hk1.secs
  have hem := fun c => Empty h d { M with c3 := c } { D1 with kept := setL D1.kept D1.cache } (fun l hl => (hk1.los l hl).2)
  obtain ⟨kept, cache, trip, dark⟩ := D1
  obtain ⟨bk, ac, cap, c1, c2, c3⟩ := M
  dsimp only at hlo hroom hf hlos hsecs hem ⊢
  unfold dkA dkV keptA cacheA at hem ⊢
  dsimp only at hem ⊢
  rw [setL_len] at hem ⊢
  simp only [List.cons_append, List.nil_append]
  (repeat' first | refine X.rq ?_ | refine X.rc ?_ ?_ <;> intro hc <;> try omega)
  refine X.sto ?_
  simp only [Go.K.nmz]
  (repeat' first | refine X.rq ?_ | refine X.rc ?_ ?_ <;> intro hc <;> try omega)
  refine K.c_loop (σ := Nat) (fun j => [(0, dv d), (20, bufV ac cache.length cap), (21, .int .i64 cache.length), (22, .int .i64 j)]) (fun _ => h)
   (fun j => blk d 109 [bufV (some bk) kept.length kept.length, bufV ac cache.length cap, .int .i64 trip, .bool dark, .int .i64 c1, .int .i64 c2, .int .i64 (IntKind.i64.wrap (c3 + 1))] :: bufA 112 512 (some bk) kept.length kept.length ((setL kept (cache.take j)).map seB).flatten :: bufA 114 513 ac cache.length cap (cache.map loB).flatten :: F)
   (fun j => j ≤ cache.length) (fun j => cache.length - j) 0 (Nat.zero_le _) (by repeat (first | exact K.Sub.nil _ | refine K.Sub.cons rfl ?_)) rfl rfl ?_
  rintro j hj KL hKL
  by_cases hjl : j < cache.length
  ·refine K.WC.someBuf 2 rfl (by omega) (fun b hb' => ?_)
   subst hb'
   obtain ⟨l, hl⟩ : ∃ l, cache[j]? = some l := ⟨_, List.getElem?_eq_getElem hjl⟩
   have hla : (cache.map loB)[j]? = some (loB l) := by rw [List.getElem?_map, hl]; rfl
   have hl5 : (loB l).length = 513 := hlo _ (List.mem_of_getElem? hla)
   obtain ⟨hl1, hl2⟩ := hlos l (List.mem_of_getElem? hl)
   have hset : setL kept (cache.take (j + 1)) = (setL kept (cache.take j)).set l.1 l.2 := by
    rw [List.take_add_one, hl]; exact setL_snoc _ _ _
   have hkl : (setL kept (cache.take j)).length = kept.length := setL_len _ _
   have hk5 : ∀ s ∈ setL kept (cache.take j), s.length = 512 := setL_512 hsecs fun l hl => (hlos l (List.mem_of_mem_take hl)).2
   have hz : ∀ e ∈ (setL kept (cache.take j)).map seB, e.length = 512 := fun e he => by
    obtain ⟨x, hx, rfl⟩ := List.mem_map.1 he
    rw [seB_len, hk5 x hx]
   obtain ⟨s0, hs0⟩ : ∃ s0, (setL kept (cache.take j))[l.1]? = some s0 := ⟨_, List.getElem?_eq_getElem (by omega)⟩
   have hsa : ((setL kept (cache.take j)).map seB)[l.1]? = some ([] ++ seB s0 ++ []) := by rw [List.getElem?_map, hs0, List.nil_append, List.append_nil]; rfl
   have hs5 := hk5 s0 (List.mem_of_getElem? hs0)
   (repeat' first | refine X.rq ?_ | refine X.rc ?_ ?_ <;> intro hc <;> try omega)
   rw [show 0 + (j : Int).toNat * 513 = j * 513 by omega]
   refine K.s_pure (K.p_loadM (Fx.agg rfl) rfl (K.cels_rowZ 2 rfl hlo hla) (Fx.sz rfl) hl5) rfl ?_
   refine K.l_alloc zrL rfl rfl (fun B4 => ?_)
   refine K.l_storeW_at 0 rfl (by rw [hl5]; exact (Fx.sz rfl)) rfl rfl (loB_ones _) (by rw [hl5, List.length_cons, nul_len]) rfl ?_
   simp only [Go.K.nmz]
   (repeat' first | refine X.rq ?_ | refine X.rc ?_ ?_ <;> intro hc <;> try omega)
   refine X.draw ([blk B4 114 (loB l), blk d 109 [bufV (some bk) kept.length kept.length, bufV (some b) cache.length cap, .int .i64 trip, .bool dark, .int .i64 c1, .int .i64 c2, .int .i64 (IntKind.i64.wrap (c3 + 1))]]) [9] (.pu 0 (.pu 1 (.pu 2 (.pu 4 (.pu 6 (.st 3 (.st 5 (.st 7 (.pu 8 (.cl 9 .nil)))))))))) ?_ (hQ := by repeat (first | with_reducible refine K.NoPanic.then ?_ | with_reducible refine K.NoPanic.inBlock ?_ | with_reducible exact K.post_noPanic _ _ | exact K.post_noPanic _ _ | exact K.QN_noPanic | exact K.postS_noPanic | exact K.postX_noPanic | exact K.RPX_noPanic))
   refine K.d_pu rfl (fun _ _ => X.mv) rfl ?_
   refine K.d_pu rfl (fun _ _ => X.nc) rfl ?_
   refine K.d_pu rfl (fun _ _ => X.fa) rfl ?_
   refine K.d_pu rfl (fun _ _ => X.fa) rfl ?_
   refine K.d_pu rfl (fun _ _ => X.fa) rfl ?_
   refine K.d_st rfl X.ld rfl ?_
   refine K.d_st rfl X.ld rfl ?_
   refine K.d_st rfl (K.p_loadM (vs := seB l.2) (Fx.agg rfl) rfl (K.cels_own (pre := []) (cs := loB l) (post := []) 0 (by rw [List.nil_append, List.append_nil]; rfl) rfl).2 (Fx.sz rfl) (by rw [seB_len, hl2])) rfl ?_
   refine K.d_pu rfl (fun _ _ => X.ia) rfl ?_
   refine K.d_cl rfl (fun KK hKK => ?_)
   refine K.l_storePart (i := l.1) (c1 := []) (c2 := seB s0) (c3 := []) (us := seB l.2) 2 rfl (by rw [seB_len, hl2]; exact (Fx.sz rfl)) (by show some (Value.pointer (some ⟨bk, 0 + (l.1 : Int).toNat * 512, none⟩)) = _; rw [Nat.zero_add, Int.toNat_natCast]; rfl) rfl (seB_ones _) hz hsa (by rw [seB_len, seB_len, hl2, hs5]) ?_
   simp only [Go.K.nmz]
   refine K.l_nil ?_
   refine K.d_clE hKK ?_
   refine K.d_nil ?_
   (repeat' first | refine X.rq ?_ | refine X.rc ?_ ?_ <;> intro hc <;> try omega)
   refine K.AT.drop ?_
   rw [List.append_nil, ← List.map_set, ← hset]
   refine K.a_round hKL (j + 1) (by omega) (by repeat (first | exact K.Sub.nil _ | refine K.Sub.cons rfl ?_)) rfl rfl (by omega)
  ·obtain rfl : j = cache.length := by omega
   rw [List.take_length]
   (repeat' first | refine X.rq ?_ | refine X.rc ?_ ?_ <;> intro hc <;> try omega)
   refine K.l_call (Fx.cal rfl) rfl (hem (IntKind.i64.wrap (c3 + 1))) (K.pp [0, 0, 0] rfl) rfl ?_
   rintro u h1 H' - ⟨e, rfl, rfl⟩
   obtain rfl := e.symm
   (repeat' first | refine X.rq ?_ | refine X.rc ?_ ?_ <;> intro hc <;> try omega)
   exact K.done (vs := [.int .i64 0]) (by first | exact Or.inl rfl | exact Or.inr rfl) rfl (K.Base.le.refl _) (H' := [_, _, _]) rfl ⟨rfl, IntKind.i64.wrap (c3 + 1), by simp [dkA, dkV, keptA, cacheA, setL_len]⟩
/-! ### Cut -/
def cutL (kept : List Sec) (cache : List Loo) (keep : List Bool) : List Sec := (cache.zip keep).foldl (fun k x => if x.2 then k.set x.1.1 x.1.2 else k) kept
def cutQ (D : Dk) (keep : List Bool) : Dk := ⟨cutL D.kept D.cache keep, [], -1, false⟩
/-! ### Image -/
theorem flat_512 : ∀ {l : List Sec}, (∀ s ∈ l, s.length = 512) → l.flatten.length = l.length * 512
 | [], _ => rfl
 | s :: l, h => by rw [List.flatten_cons, List.length_append, h s (List.mem_cons_self ..), flat_512 fun x hx => h x (List.mem_cons_of_mem _ hx), List.length_cons]; omega
structure ImS where
 j : Nat
 a : Option Nat
 k : Nat
set_option maxHeartbeats 2000000 in
theorem Image (h : Base) (d : Nat) (M : DM) (D : Dk) (hk : DkOk D) : Tr Tryz.prog 29 [dv d] h (dkA d M D) (fun v h' H' => h' = h ∧ ∃ a cap, v = bufV a D.kept.flatten.length cap ∧ H' = bufA 5 1 a D.kept.flatten.length cap (D.kept.flatten.map u8) :: dkA d M D) := by
 have hse := Sectors h d M D
 have hsecs := hk.secs
 have hf := hk.few
 have hz := se_512 hk
 obtain ⟨kept, cache, trip, dark⟩ := D
 obtain ⟨bk, ac, cap, c1, c2, c3⟩ := M
 dsimp only at hsecs hf hz hse ⊢
 unfold dkA dkV keptA at hse ⊢
 dsimp only at hse ⊢
 refine K.enter Tryz.func29 rfl (Nat.le_of_ble_eq_true rfl) (fun F => ?_)
 simp only [List.cons_append, List.nil_append]
 refine K.WC.nilBuf 5 1 ?_
 (repeat' first | refine X.rq ?_ | refine X.rc ?_ ?_ <;> intro hc <;> try omega)
 refine K.l_callV (Fx.cal rfl) rfl hse (K.pp [1, 1, 1] rfl) rfl rfl ?_
 simp only [Go.K.nmz]
 refine K.WL.perm (K.pp [3] rfl) ?_
 simp only [Go.K.nmz]
 (repeat' first | refine X.rq ?_ | refine X.rc ?_ ?_ <;> intro hc <;> try omega)
 refine K.c_loop (σ := ImS) (fun q => [(0, dv d), (3, bufV q.a (kept.take q.j).flatten.length q.k), (6, .int .i64 kept.length), (7, .int .i64 q.j)]) (fun _ => h)
  (fun q => bufA 5 1 q.a (kept.take q.j).flatten.length q.k ((kept.take q.j).flatten.map u8) :: blk d 109 [bufV (some bk) kept.length kept.length, bufV ac cache.length cap, .int .i64 trip, .bool dark, .int .i64 c1, .int .i64 c2, .int .i64 c3] :: bufA 112 512 (some bk) kept.length kept.length (kept.map seB).flatten :: cacheA ⟨bk, ac, cap, c1, c2, c3⟩ ⟨kept, cache, trip, dark⟩ :: F)
  (fun q => q.j ≤ kept.length) (fun q => kept.length - q.j) ⟨0, none, 0⟩ (Nat.zero_le _) (by repeat (first | exact K.Sub.nil _ | refine K.Sub.cons rfl ?_)) rfl rfl ?_
 rintro ⟨j, a, k⟩ hj KL hKL
 dsimp only at hj ⊢
 by_cases hjl : j < kept.length
 ·obtain ⟨s0, hs0⟩ : ∃ s0, kept[j]? = some s0 := ⟨_, List.getElem?_eq_getElem hjl⟩
  have hsa : (kept.map seB)[j]? = some (seB s0) := by rw [List.getElem?_map, hs0]; rfl
  have hs5 := hsecs s0 (List.mem_of_getElem? hs0)
  have htk : (kept.take (j + 1)).flatten = (kept.take j).flatten ++ s0 := by rw [List.take_add_one, hs0]; simp
  have hfl : (kept.take j).flatten.length ≤ 4194304 := by
   rw [flat_512 fun x hx => hsecs x (List.mem_of_mem_take hx), List.length_take]
   omega
  (repeat' first | refine X.rq ?_ | refine X.rc ?_ ?_ <;> intro hc <;> try omega)
  rw [show 0 + (j : Int).toNat * 512 = j * 512 by omega]
  refine K.s_pure (K.p_sliceAll (Fx.und rfl) (Fx.sz rfl) rfl) rfl ?_
  refine K.l_append_at 0 rfl (Fx.und rfl) (Fx.und rfl) rfl (Fx.sz rfl) (Fx.zr rfl) rfl (Fx.byt rfl) rfl rfl (K.src_cells (m := 512) (K.cels_rowZ 1 rfl hz hsa) (by rw [seB_len, hs5]) (List.all_eq_true.1 (seB_ones s0))) (by omega) (by omega) rfl (fun a' k' => ?_)
  simp only [Go.K.nmz]
  (repeat' first | refine X.rq ?_ | refine X.rc ?_ ?_ <;> intro hc <;> try omega)
  refine K.a_round hKL ⟨j + 1, a', k'⟩ (by dsimp only; omega) ?_ rfl ?_ (by dsimp only; omega)
  ·dsimp only
   rw [htk, List.length_append, hs5]
   exact (by repeat (first | exact K.Sub.nil _ | refine K.Sub.cons rfl ?_))
  ·dsimp only
   rw [htk, List.length_append, hs5, List.map_append]
   rfl
 ·obtain rfl : j = kept.length := by omega
  rw [List.take_length]
  (repeat' first | refine X.rq ?_ | refine X.rc ?_ ?_ <;> intro hc <;> try omega)
  exact K.done (vs := [bufV a kept.flatten.length k]) (by first | exact Or.inl rfl | exact Or.inr rfl) rfl (K.Base.le.refl _) (H' := [_, _, _, _]) rfl ⟨rfl, a, k, rfl, rfl⟩
end Go.Proofs.YtmcdaegaopfihaaGreat.Wl
