/-
 The disk: written, synced, cut, its image. Conditions: each theorem's own.
-/
import Derived.Test.YtmcdaegaopfihaaGreatY27
namespace Go.Proofs.YtmcdaegaopfihaaGreat.Wl
open Go Go.K Go.Proofs Go.Proofs.YtmcdaegaopfihaaGreat
set_option linter.unusedVariables false
set_option linter.unusedSimpArgs false
set_option maxRecDepth 10000

/-! ### Write -/
def writeQ (D : Dk) (at_ : Int) (b : Sec) : Int × Dk := if at_ < 0 ∨ (D.kept.length : Int) ≤ at_ then (2, D) else if b.length ≠ 512 then (1, D) else if (goesQ D).1 then (0, { (goesQ D).2 with cache := D.cache ++ [(at_.toNat, b)] }) else (8, (goesQ D).2)
theorem build_lo (l : Loo) (h : l.2.length = 512) : fillL [(0, 1), (1, 512)] (.int .i64 0 :: nul 512) [(0, .int .i64 l.1), (1, .agg (seB l.2).toArray)] = some (loB l) := by
 have h5 : (seB l.2).length = 512 := by rw [seB_len, h]
 have e1 : (Value.agg (seB l.2).toArray).cells.toList = seB l.2 := rfl
 have e2 : (Value.int .i64 (l.1 : Int)).cells.toList = [Value.int .i64 (l.1 : Int)] := rfl
 have e3 : overL (.int .i64 0 :: nul 512) 0 [.int .i64 (l.1 : Int)] = .int .i64 (l.1 : Int) :: nul 512 := rfl
 have e4 : overL (.int .i64 (l.1 : Int) :: nul 512) 1 (seB l.2) = loB l := by
  unfold overL
  rw [h5, List.drop_of_length_le (by rw [List.length_cons, nul_len]; omega), List.append_nil]
  rfl
 simp only [fillL, List.getElem?_cons_zero, List.getElem?_cons_succ, e1, e2, e3, h5, List.length_cons, nul_len, e4]
 rfl
theorem BV.cels {h : Base} {ao : Option Addr} {n c : Nat} {l : List UInt8} (hb : BV h (.slice ao n c) l) (h0 : 0 < l.length) : n = l.length ∧ ∃ b o, ao = some ⟨b, o, none⟩ ∧ Cels h [] b o (l.map u8) := by
 rcases hb with ⟨_, _, _, rfl⟩ | ⟨b, o, c', e, _, hc⟩
 ·cases h0
 ·cases e; exact ⟨rfl, b, o, rfl, hc⟩
set_option maxHeartbeats 2000000 in
theorem Write (h : Base) (d : Nat) (M : DM) (D : Dk) (at_ : Int) (v : Value) (b : Sec) (hk : DkOk D) (ha1 : -9223372036854775808 ≤ at_) (ha2 : at_ ≤ 9223372036854775807) (hb : BV h v b) (hbl : b.length ≤ 9223372036854775807) :
  Tr Tryz.prog 34 [dv d, .int .i64 at_, v] h (dkA d M D) (fun u h' H' => u = .int .i64 (writeQ D at_ b).1 ∧ ∃ ac cap c, H' = dkA d { M with ac := ac, cap := cap, c2 := c } (writeQ D at_ b).2) := by
 have hp := hk.pos
 have hf := hk.few
 have hgo := Goes h d M D hk
 have hse := Sectors h d M D
 have hb0 := hb
 obtain ⟨ao, ca, rfl⟩ := hb.len
 refine K.enter Tryz.func34 rfl (Nat.le_of_ble_eq_true rfl) (fun F => ?_)
 by_cases hr : at_ < 0 ∨ (D.kept.length : Int) ≤ at_
 ·have er : writeQ D at_ b = (2, D) := by unfold writeQ; rw [if_pos hr]
  rw [er]
  by_cases h0 : at_ < 0
  ·(repeat' first | refine X.rq ?_ | refine X.rc ?_ ?_ <;> intro hc <;> try omega)
   all_goals try (exfalso; omega)
   exact K.done (vs := [.int .i64 2]) (by first | exact Or.inl rfl | exact Or.inr rfl) rfl (K.Base.le.refl _) (H' := dkA d M D) rfl ⟨rfl, M.ac, M.cap, M.c2, rfl⟩
  ·(repeat' first | refine X.rq ?_ | refine X.rc ?_ ?_ <;> intro hc <;> try omega)
   all_goals try (exfalso; omega)
   refine K.l_callV (Fx.cal rfl) rfl hse (K.pp [0, 0, 0] rfl) rfl rfl ?_
   (repeat' first | refine X.rq ?_ | refine X.rc ?_ ?_ <;> intro hc <;> try omega)
   all_goals try (exfalso; omega)
   exact K.done (vs := [.int .i64 2]) (by first | exact Or.inl rfl | exact Or.inr rfl) rfl (K.Base.le.refl _) (H' := dkA d M D) rfl ⟨rfl, M.ac, M.cap, M.c2, rfl⟩
 obtain ⟨a, rfl⟩ : ∃ a : Nat, at_ = (a : Int) := ⟨at_.toNat, by omega⟩
 have hal : a < D.kept.length := by omega
 (repeat' first | refine X.rq ?_ | refine X.rc ?_ ?_ <;> intro hc <;> try omega)
 all_goals try (exfalso; omega)
 refine K.l_callV (Fx.cal rfl) rfl hse (K.pp [0, 0, 0] rfl) rfl rfl ?_
 by_cases hb5 : b.length = 512
 rotate_left
 ·have er : writeQ D (a : Int) b = (1, D) := by unfold writeQ; rw [if_neg hr, if_pos hb5]
  rw [er]
  (repeat' first | refine X.rq ?_ | refine X.rc ?_ ?_ <;> intro hc <;> try omega)
  all_goals try (exfalso; omega)
  exact K.done (vs := [.int .i64 1]) (by first | exact Or.inl rfl | exact Or.inr rfl) rfl (K.Base.le.refl _) (H' := dkA d M D) rfl ⟨rfl, M.ac, M.cap, M.c2, rfl⟩
 (repeat' first | refine X.rq ?_ | refine X.rc ?_ ?_ <;> intro hc <;> try omega)
 all_goals try (exfalso; omega)
 refine K.l_call (Fx.cal rfl) rfl hgo (K.pp [0, 0, 0] rfl) rfl ?_
 rintro u h1 H' - ⟨e, rfl, rfl⟩
 obtain rfl := e.symm
 have hk1 := hk.goes
 obtain ⟨ek, ec⟩ := goes_kept D
 cases hg : (goesQ D).1 with
 | false =>
  have er : writeQ D (a : Int) b = (8, (goesQ D).2) := by unfold writeQ; rw [if_neg hr, if_neg (by omega), hg]; rfl
  rw [er]
  (repeat' first | refine X.rq ?_ | refine X.rc ?_ ?_ <;> intro hc <;> try omega)
  exact K.done (vs := [.int .i64 8]) (by first | exact Or.inl rfl | exact Or.inr rfl) rfl (K.Base.le.refl _) (H' := dkA d M (goesQ D).2) rfl ⟨rfl, M.ac, M.cap, M.c2, rfl⟩
 | true =>
  have er : writeQ D (a : Int) b = (0, { (goesQ D).2 with cache := D.cache ++ [(a, b)] }) := by unfold writeQ; rw [if_neg hr, if_neg (by omega), hg, Int.toNat_natCast]; rfl
  rw [er, ← ec]
  rw [← ek] at hal
  clear hgo hse hp hf hr er ek ec hk hg
  generalize (goesQ D).2 = D1 at *
  have hlo := lo_513 hk1
  have hsz := se_512 hk1
  have hroom := hk1.room
  have hf := hk1.few
  obtain ⟨kept, cache, trip, dark⟩ := D1
  obtain ⟨bk, ac, cap, c1, c2, c3⟩ := M
  dsimp only at hal hlo hsz hroom hf ⊢
  unfold dkA dkV keptA cacheA
  simp only [List.cons_append, List.nil_append]
  obtain ⟨_, bb, oo, rfl, hcel⟩ := BV.cels hb0 (by omega)
  have hb6 : (List.map u8 b).length = 512 := by rw [List.length_map, hb5]
  have hl5 : (loB (a, b)).length = 513 := by rw [loB_len]; show b.length + 1 = 513; omega
  (repeat' first | refine X.rq ?_ | refine X.rc ?_ ?_ <;> intro hc <;> try omega)
  refine X.sto ?_
  simp only [Go.K.nmz]
  (repeat' first | refine X.rq ?_ | refine X.rc ?_ ?_ <;> intro hc <;> try omega)
  refine X.draw ([blk d 109 [bufV (some bk) kept.length kept.length, bufV ac cache.length cap, .int .i64 trip, .bool dark, .int .i64 c1, .int .i64 (IntKind.i64.wrap (c2 + 1)), .int .i64 c3]]) [14] (.pu 0 (.pu 1 (.pu 2 (.pu 3 (.pu 5 (.pu 6 (.pu 7 (.st 4 (.st 8 (.pu 9 (.on 10 (.on 11 (.pu 12 (.pu 13 (.cl 14 .nil))))))))))))))) ?_ (hQ := by repeat (first | with_reducible refine K.NoPanic.then ?_ | with_reducible refine K.NoPanic.inBlock ?_ | with_reducible exact K.post_noPanic _ _ | exact K.post_noPanic _ _ | exact K.QN_noPanic | exact K.postS_noPanic | exact K.postX_noPanic | exact K.RPX_noPanic))
  refine K.d_pu rfl (fun _ _ => X.mv) rfl ?_
  refine K.d_pu rfl (fun _ _ => X.mv) rfl ?_
  refine K.d_pu rfl (fun _ _ => X.nc) rfl ?_
  refine K.d_pu rfl (fun _ _ => X.fa) rfl ?_
  refine K.d_pu rfl (fun _ _ => X.mv) rfl ?_
  refine K.d_pu rfl (fun _ _ => X.mv) rfl ?_
  refine K.d_pu rfl (fun _ _ => K.p_arrAt (m := 512) (Fx.und rfl) rfl (show 512 ≤ b.length by omega)) rfl ?_
  refine K.d_st rfl X.ld rfl ?_
  refine K.d_st rfl (K.p_loadM (Fx.agg rfl) rfl (Cels.up hcel) (Fx.sz rfl) hb6) rfl ?_
  refine K.d_pu rfl (fun _ _ => K.p_build plL zrL rfl (build_lo (a, b) hb5)) rfl ?_
  refine K.d_on rfl (fun KK hKK => ?_)
  refine K.l_buildSlice (cs := loB (a, b)) (Fx.und rfl) (Fx.sz rfl) rfl zrL rfl rfl (by simp [seqOk, Value.cells, hl5]) (by simp [cellsL, Value.cells]) rfl (fun B9 => ?_)
  refine K.l_nil ?_
  refine X.onE hKK ?_
  refine K.d_on rfl (fun KK hKK => ?_)
  refine K.l_append_at 3 rfl (Fx.und rfl) (Fx.und rfl) rfl (Fx.sz rfl) zrL rfl (Fx.byt rfl) rfl rfl (K.src_cells (m := 1) (K.cels_own (pre := []) (cs := loB (a, b)) (post := []) 0 (by rw [List.nil_append, List.append_nil]; rfl) rfl) (by rw [hl5]) (List.all_eq_true.1 (loB_ones (a, b)))) (by omega) (by omega) rfl (fun a' cap' => ?_)
  refine K.l_nil ?_
  refine X.onE hKK ?_
  refine K.d_pu rfl (fun _ _ => X.nc) rfl ?_
  refine K.d_pu rfl (fun _ _ => X.fa) rfl ?_
  refine K.d_cl rfl (fun KK hKK => ?_)
  refine X.sto ?_
  refine K.l_nil ?_
  refine K.d_clE hKK ?_
  refine K.d_nil ?_
  (repeat' first | refine X.rq ?_ | refine X.rc ?_ ?_ <;> intro hc <;> try omega)
  refine K.AT.drop ?_
  exact K.done (vs := [.int .i64 0]) (by first | exact Or.inl rfl | exact Or.inr rfl) rfl (K.Base.le.refl _) (H' := [_, _, _]) rfl ⟨rfl, a', cap', IntKind.i64.wrap (c2 + 1), by simp [dkA, dkV, keptA, cacheA]⟩
/-! ### Sync -/
def setL (kept : List Sec) (cache : List Loo) : List Sec := cache.foldl (fun k l => k.set l.1 l.2) kept
theorem setL_snoc (kept : List Sec) (cache : List Loo) (l : Loo) : setL kept (cache ++ [l]) = (setL kept cache).set l.1 l.2 := by unfold setL; rw [List.foldl_append]; rfl
theorem setL_len (kept : List Sec) : ∀ cache : List Loo, (setL kept cache).length = kept.length := by
 intro cache
 unfold setL
 induction cache generalizing kept with
 | nil => rfl
 | cons l r ih => rw [List.foldl_cons, ih, List.length_set]
theorem mem_set {α : Type} {k : List α} {i : Nat} {x y : α} (h : y ∈ k.set i x) : y = x ∨ y ∈ k := by
 rcases List.mem_or_eq_of_mem_set h with h | h
 ·exact .inr h
 ·exact .inl h
theorem setL_512 {kept : List Sec} (hk : ∀ s ∈ kept, s.length = 512) : ∀ {cache : List Loo}, (∀ l ∈ cache, l.2.length = 512) → ∀ s ∈ setL kept cache, s.length = 512 := by
 intro cache
 unfold setL
 induction cache generalizing kept with
 | nil => intro _; exact hk
 | cons l r ih =>
  intro hc
  rw [List.foldl_cons]
  refine ih (fun s hs => ?_) fun x hx => hc x (List.mem_cons_of_mem _ hx)
  rcases mem_set hs with rfl | hs
  ·exact hc l (List.mem_cons_self ..)
  ·exact hk s hs
def syncQ (D : Dk) : Int × Dk := if (goesQ D).1 then (0, { (goesQ D).2 with kept := setL D.kept D.cache, cache := [] }) else (8, (goesQ D).2)
set_option maxHeartbeats 2000000 in
theorem Sync (h : Base) (d : Nat) (M : DM) (D : Dk) (hk : DkOk D) :
  Tr Tryz.prog 36 [dv d] h (dkA d M D) (fun u h' H' => u = .int .i64 (syncQ D).1 ∧ ∃ c, H' = dkA d { M with c3 := c } (syncQ D).2) := by
 have hgo := Goes h d M D hk
 refine K.enter Tryz.func36 rfl (Nat.le_of_ble_eq_true rfl) (fun F => ?_)
 (repeat' first | refine X.rq ?_ | refine X.rc ?_ ?_ <;> intro hc <;> try omega)
 refine K.l_call (Fx.cal rfl) rfl hgo (K.pp [0, 0, 0] rfl) rfl ?_
 rintro u h1 H' - ⟨e, rfl, rfl⟩
 obtain rfl := e.symm
 have hk1 := hk.goes
 obtain ⟨ek, ec⟩ := goes_kept D
 cases hg : (goesQ D).1 with
 | false =>
  have er : syncQ D = (8, (goesQ D).2) := by unfold syncQ; rw [hg]; rfl
  rw [er]
  (repeat' first | refine X.rq ?_ | refine X.rc ?_ ?_ <;> intro hc <;> try omega)
  exact K.done (vs := [.int .i64 8]) (by first | exact Or.inl rfl | exact Or.inr rfl) rfl (K.Base.le.refl _) (H' := dkA d M (goesQ D).2) rfl ⟨rfl, M.c3, rfl⟩
 | true =>
  have er : syncQ D = (0, { (goesQ D).2 with kept := setL D.kept D.cache, cache := [] }) := by unfold syncQ; rw [hg]; rfl
  rw [er, ← ec, ← ek]
  clear hgo er ek ec hk hg
  generalize (goesQ D).2 = D1 at *
  have hlo := lo_513 hk1
  have hroom := hk1.room
  have hf := hk1.few
  have hlos := hk1.los
  have hsecs := hk1.secs
  have hem := fun c => Empty h d { M with c3 := c } { D1 with kept := setL D1.kept D1.cache } (fun l hl => (hk1.los l hl).2)
  obtain ⟨kept, cache, trip, dark⟩ := D1
  obtain ⟨bk, ac, cap, c1, c2, c3⟩ := M
  dsimp only at hlo hroom hf hlos hsecs hem ⊢
  unfold dkA dkV keptA cacheA at hem ⊢
  dsimp only at hem ⊢
  rw [setL_len] at hem ⊢
  simp only [List.cons_append, List.nil_append]
  (repeat' first | refine X.rq ?_ | refine X.rc ?_ ?_ <;> intro hc <;> try omega)
  refine X.sto ?_
  simp only [Go.K.nmz]
  (repeat' first | refine X.rq ?_ | refine X.rc ?_ ?_ <;> intro hc <;> try omega)
  refine K.c_loop (σ := Nat) (fun j => [(0, dv d), (20, bufV ac cache.length cap), (21, .int .i64 cache.length), (22, .int .i64 j)]) (fun _ => h)
   (fun j => blk d 109 [bufV (some bk) kept.length kept.length, bufV ac cache.length cap, .int .i64 trip, .bool dark, .int .i64 c1, .int .i64 c2, .int .i64 (IntKind.i64.wrap (c3 + 1))] :: bufA 112 512 (some bk) kept.length kept.length ((setL kept (cache.take j)).map seB).flatten :: bufA 114 513 ac cache.length cap (cache.map loB).flatten :: F)
   (fun j => j ≤ cache.length) (fun j => cache.length - j) 0 (Nat.zero_le _) (by repeat (first | exact K.Sub.nil _ | refine K.Sub.cons rfl ?_)) rfl rfl ?_
  rintro j hj KL hKL
  by_cases hjl : j < cache.length
  ·refine K.WC.someBuf 2 rfl (by omega) (fun b hb' => ?_)
   subst hb'
   obtain ⟨l, hl⟩ : ∃ l, cache[j]? = some l := ⟨_, List.getElem?_eq_getElem hjl⟩
   have hla : (cache.map loB)[j]? = some (loB l) := by rw [List.getElem?_map, hl]; rfl
   have hl5 : (loB l).length = 513 := hlo _ (List.mem_of_getElem? hla)
   obtain ⟨hl1, hl2⟩ := hlos l (List.mem_of_getElem? hl)
   have hset : setL kept (cache.take (j + 1)) = (setL kept (cache.take j)).set l.1 l.2 := by
    rw [List.take_add_one, hl]; exact setL_snoc _ _ _
   have hkl : (setL kept (cache.take j)).length = kept.length := setL_len _ _
   have hk5 : ∀ s ∈ setL kept (cache.take j), s.length = 512 := setL_512 hsecs fun l hl => (hlos l (List.mem_of_mem_take hl)).2
   have hz : ∀ e ∈ (setL kept (cache.take j)).map seB, e.length = 512 := fun e he => by
    obtain ⟨x, hx, rfl⟩ := List.mem_map.1 he
    rw [seB_len, hk5 x hx]
   obtain ⟨s0, hs0⟩ : ∃ s0, (setL kept (cache.take j))[l.1]? = some s0 := ⟨_, List.getElem?_eq_getElem (by omega)⟩
   have hsa : ((setL kept (cache.take j)).map seB)[l.1]? = some ([] ++ seB s0 ++ []) := by rw [List.getElem?_map, hs0, List.nil_append, List.append_nil]; rfl
   have hs5 := hk5 s0 (List.mem_of_getElem? hs0)
   (repeat' first | refine X.rq ?_ | refine X.rc ?_ ?_ <;> intro hc <;> try omega)
   rw [show 0 + (j : Int).toNat * 513 = j * 513 by omega]
   refine K.s_pure (K.p_loadM (Fx.agg rfl) rfl (K.cels_rowZ 2 rfl hlo hla) (Fx.sz rfl) hl5) rfl ?_
   refine K.l_alloc zrL rfl rfl (fun B4 => ?_)
   refine K.l_storeW_at 0 rfl (by rw [hl5]; exact (Fx.sz rfl)) rfl rfl (loB_ones _) (by rw [hl5, List.length_cons, nul_len]) rfl ?_
   simp only [Go.K.nmz]
   (repeat' first | refine X.rq ?_ | refine X.rc ?_ ?_ <;> intro hc <;> try omega)
   refine X.draw ([blk B4 114 (loB l), blk d 109 [bufV (some bk) kept.length kept.length, bufV (some b) cache.length cap, .int .i64 trip, .bool dark, .int .i64 c1, .int .i64 c2, .int .i64 (IntKind.i64.wrap (c3 + 1))]]) [9] (.pu 0 (.pu 1 (.pu 2 (.pu 4 (.pu 6 (.st 3 (.st 5 (.st 7 (.pu 8 (.cl 9 .nil)))))))))) ?_ (hQ := by repeat (first | with_reducible refine K.NoPanic.then ?_ | with_reducible refine K.NoPanic.inBlock ?_ | with_reducible exact K.post_noPanic _ _ | exact K.post_noPanic _ _ | exact K.QN_noPanic | exact K.postS_noPanic | exact K.postX_noPanic | exact K.RPX_noPanic))
   refine K.d_pu rfl (fun _ _ => X.mv) rfl ?_
   refine K.d_pu rfl (fun _ _ => X.nc) rfl ?_
   refine K.d_pu rfl (fun _ _ => X.fa) rfl ?_
   refine K.d_pu rfl (fun _ _ => X.fa) rfl ?_
   refine K.d_pu rfl (fun _ _ => X.fa) rfl ?_
   refine K.d_st rfl X.ld rfl ?_
   refine K.d_st rfl X.ld rfl ?_
   refine K.d_st rfl (K.p_loadM (vs := seB l.2) (Fx.agg rfl) rfl (K.cels_own (pre := []) (cs := loB l) (post := []) 0 (by rw [List.nil_append, List.append_nil]; rfl) rfl).2 (Fx.sz rfl) (by rw [seB_len, hl2])) rfl ?_
   refine K.d_pu rfl (fun _ _ => X.ia) rfl ?_
   refine K.d_cl rfl (fun KK hKK => ?_)
   refine K.l_storePart (i := l.1) (c1 := []) (c2 := seB s0) (c3 := []) (us := seB l.2) 2 rfl (by rw [seB_len, hl2]; exact (Fx.sz rfl)) (by show some (Value.pointer (some ⟨bk, 0 + (l.1 : Int).toNat * 512, none⟩)) = _; rw [Nat.zero_add, Int.toNat_natCast]; rfl) rfl (seB_ones _) hz hsa (by rw [seB_len, seB_len, hl2, hs5]) ?_
   simp only [Go.K.nmz]
   refine K.l_nil ?_
   refine K.d_clE hKK ?_
   refine K.d_nil ?_
   (repeat' first | refine X.rq ?_ | refine X.rc ?_ ?_ <;> intro hc <;> try omega)
   refine K.AT.drop ?_
   rw [List.append_nil, ← List.map_set, ← hset]
   refine K.a_round hKL (j + 1) (by omega) (by repeat (first | exact K.Sub.nil _ | refine K.Sub.cons rfl ?_)) rfl rfl (by omega)
  ·obtain rfl : j = cache.length := by omega
   rw [List.take_length]
   (repeat' first | refine X.rq ?_ | refine X.rc ?_ ?_ <;> intro hc <;> try omega)
   refine K.l_call (Fx.cal rfl) rfl (hem (IntKind.i64.wrap (c3 + 1))) (K.pp [0, 0, 0] rfl) rfl ?_
   rintro u h1 H' - ⟨e, rfl, rfl⟩
   obtain rfl := e.symm
   (repeat' first | refine X.rq ?_ | refine X.rc ?_ ?_ <;> intro hc <;> try omega)
   exact K.done (vs := [.int .i64 0]) (by first | exact Or.inl rfl | exact Or.inr rfl) rfl (K.Base.le.refl _) (H' := [_, _, _]) rfl ⟨rfl, IntKind.i64.wrap (c3 + 1), by simp [dkA, dkV, keptA, cacheA, setL_len]⟩
/-! ### Cut -/
def cutL (kept : List Sec) (cache : List Loo) (keep : List Bool) : List Sec := (cache.zip keep).foldl (fun k x => if x.2 then k.set x.1.1 x.1.2 else k) kept
theorem cutL_len (keep : List Bool) : ∀ (cache : List Loo) (kept : List Sec), (cutL kept cache keep).length = kept.length := by
 intro cache kept
 unfold cutL
 generalize cache.zip keep = z
 induction z generalizing kept with
 | nil => rfl
 | cons l r ih =>
  rw [List.foldl_cons, ih]
  split
  ·rw [List.length_set]
  ·rfl
theorem cutL_512 {kept : List Sec} (hk : ∀ s ∈ kept, s.length = 512) {cache : List Loo} {keep : List Bool} (hc : ∀ l ∈ cache, l.2.length = 512) : ∀ s ∈ cutL kept cache keep, s.length = 512 := by
 unfold cutL
 have hz : ∀ x ∈ cache.zip keep, x.1.2.length = 512 := fun x hx => hc _ (List.of_mem_zip hx).1
 generalize cache.zip keep = z at hz
 induction z generalizing kept with
 | nil => exact hk
 | cons l r ih =>
  rw [List.foldl_cons]
  refine ih (fun s hs => ?_) fun x hx => hz x (List.mem_cons_of_mem _ hx)
  split at hs
  ·rcases mem_set hs with rfl | hs
   ·exact hz l (List.mem_cons_self ..)
   ·exact hk s hs
  ·exact hk s hs
theorem zip_snoc {α β : Type} {l : List α} {m : List β} {j : Nat} {x : α} (hx : l[j]? = some x) : (l.take (j + 1)).zip m = (l.take j).zip m ++ (match m[j]? with | some y => [(x, y)] | none => []) := by
 induction l generalizing m j with
 | nil => simp at hx
 | cons a l ih =>
  cases m with
  | nil => simp
  | cons b m =>
   cases j with
   | zero => simp at hx; subst hx; simp
   | succ j =>
    simp only [List.take_succ_cons, List.zip_cons_cons, List.getElem?_cons_succ, List.cons_append]
    rw [ih (by simpa using hx)]
theorem cutL_snoc {kept : List Sec} {cache : List Loo} {keep : List Bool} {j : Nat} {l : Loo} (hl : cache[j]? = some l) : cutL kept (cache.take (j + 1)) keep = if keep[j]? = some true then (cutL kept (cache.take j) keep).set l.1 l.2 else cutL kept (cache.take j) keep := by
 unfold cutL
 rw [zip_snoc hl, List.foldl_append]
 cases hkj : keep[j]? with
 | none => simp
 | some y => cases y <;> simp
def cutQ (D : Dk) (keep : List Bool) : Dk := ⟨cutL D.kept D.cache keep, [], -1, false⟩
set_option maxHeartbeats 2000000 in
theorem Cut (h : Base) (d : Nat) (M : DM) (D : Dk) (v : Value) (keep : List Bool) (hk : DkOk D) (hv : SL h 1 v (keep.map fun b => [.bool b])) (hkl : keep.length ≤ 9223372036854775807) :
  Tr Tryz.prog 25 [dv d, v] h (dkA d M D) (fun u h' H' => h' = h ∧ u = .tuple #[] ∧ H' = dkA d M (cutQ D keep)) := by
 have hse := Sectors h d M D
 have hp := hk.pos
 obtain ⟨ao, ca, rfl⟩ := hv.len
 rw [List.length_map] at hv ⊢
 refine K.enter Tryz.func25 rfl (Nat.le_of_ble_eq_true rfl) (fun F => ?_)
 (repeat' first | refine X.rq ?_ | refine X.rc ?_ ?_ <;> intro hc <;> try omega)
 refine K.l_callV (Fx.cal rfl) rfl hse (K.pp [0, 0, 0] rfl) rfl rfl ?_
 have hlo := lo_513 hk
 have hroom := hk.room
 have hf := hk.few
 have hlos := hk.los
 have hsecs := hk.secs
 have hem := Empty h d M { D with kept := cutL D.kept D.cache keep } (fun l hl => (hk.los l hl).2)
 obtain ⟨kept, cache, trip, dark⟩ := D
 obtain ⟨bk, ac, cap, c1, c2, c3⟩ := M
 dsimp only at hlo hroom hf hlos hsecs hem hp ⊢
 unfold dkA dkV keptA cacheA at hem ⊢
 unfold cutQ
 dsimp only at hem ⊢
 rw [cutL_len] at hem ⊢
 simp only [List.cons_append, List.nil_append]
 (repeat' first | refine X.rq ?_ | refine X.rc ?_ ?_ <;> intro hc <;> try omega)
 all_goals try (exfalso; omega)
 refine K.c_loop (σ := Nat) (fun j => [(0, dv d), (1, .slice ao keep.length ca), (12, bufV ac cache.length cap), (13, .int .i64 cache.length), (14, .int .i64 j)]) (fun _ => h)
  (fun j => blk d 109 [bufV (some bk) kept.length kept.length, bufV ac cache.length cap, .int .i64 trip, .bool dark, .int .i64 c1, .int .i64 c2, .int .i64 c3] :: bufA 112 512 (some bk) kept.length kept.length ((cutL kept (cache.take j) keep).map seB).flatten :: bufA 114 513 ac cache.length cap (cache.map loB).flatten :: F)
  (fun j => j ≤ cache.length) (fun j => cache.length - j) 0 (Nat.zero_le _) (by repeat (first | exact K.Sub.nil _ | refine K.Sub.cons rfl ?_)) rfl rfl ?_
 rintro j hj KL hKL
 by_cases hjl : j < cache.length
 ·refine K.WC.someBuf 2 rfl (by omega) (fun b hb' => ?_)
  subst hb'
  obtain ⟨l, hl⟩ : ∃ l, cache[j]? = some l := ⟨_, List.getElem?_eq_getElem hjl⟩
  have hla : (cache.map loB)[j]? = some (loB l) := by rw [List.getElem?_map, hl]; rfl
  have hl5 : (loB l).length = 513 := hlo _ (List.mem_of_getElem? hla)
  obtain ⟨hl1, hl2⟩ := hlos l (List.mem_of_getElem? hl)
  have hset := cutL_snoc (kept := kept) (keep := keep) hl
  have hcl : (cutL kept (cache.take j) keep).length = kept.length := cutL_len _ _ _
  have hk5 : ∀ s ∈ cutL kept (cache.take j) keep, s.length = 512 := cutL_512 hsecs fun l hl => (hlos l (List.mem_of_mem_take hl)).2
  have hz : ∀ e ∈ (cutL kept (cache.take j) keep).map seB, e.length = 512 := fun e he => by
   obtain ⟨x, hx, rfl⟩ := List.mem_map.1 he
   rw [seB_len, hk5 x hx]
  obtain ⟨s0, hs0⟩ : ∃ s0, (cutL kept (cache.take j) keep)[l.1]? = some s0 := ⟨_, List.getElem?_eq_getElem (by omega)⟩
  have hsa : ((cutL kept (cache.take j) keep).map seB)[l.1]? = some ([] ++ seB s0 ++ []) := by rw [List.getElem?_map, hs0, List.nil_append, List.append_nil]; rfl
  have hs5 := hk5 s0 (List.mem_of_getElem? hs0)
  have no : keep[j]? ≠ some true → cutL kept (cache.take (j + 1)) keep = cutL kept (cache.take j) keep := fun hn => by rw [hset, if_neg hn]
  (repeat' first | refine X.rq ?_ | refine X.rc ?_ ?_ <;> intro hc <;> try omega)
  rw [show 0 + (j : Int).toNat * 513 = j * 513 by omega]
  refine K.s_pure (K.p_loadM (Fx.agg rfl) rfl (K.cels_rowZ 2 rfl hlo hla) (Fx.sz rfl) hl5) rfl ?_
  refine K.l_alloc zrL rfl rfl (fun B5 => ?_)
  (repeat' first | refine X.rq ?_ | refine X.rc ?_ ?_ <;> intro hc <;> try omega)
  refine K.l_storeW_at 0 rfl (by rw [hl5]; exact (Fx.sz rfl)) rfl rfl (loB_ones _) (by rw [hl5, List.length_cons, nul_len]) rfl ?_
  simp only [Go.K.nmz]
  by_cases hjk : j < keep.length
  ·obtain ⟨y, hy⟩ : ∃ y, keep[j]? = some y := ⟨_, List.getElem?_eq_getElem hjk⟩
   have hye : (keep.map fun b => [Value.bool b])[(j : Int).toNat]? = some [.bool y] := by rw [Int.toNat_natCast, List.getElem?_map, hy]; rfl
   (repeat' first | refine X.rq ?_ | refine X.rc ?_ ?_ <;> intro hc <;> try omega)
   all_goals try (exfalso; omega)
   try refine K.s_take rfl rfl ?_
   refine K.s_pureE (K.p_indexL hv (Fx.und rfl) (Fx.sz rfl) rfl rfl (by omega) hye) rfl ?_
   rintro v2 ⟨b2, o2, rfl, hcel⟩
   try refine K.s_take rfl rfl ?_
   refine K.s_pure (K.p_load (Fx.agg rfl) rfl (Cels.up hcel).1) rfl ?_
   cases y with
   | false =>
    (repeat' first | refine X.rq ?_ | refine X.rc ?_ ?_ <;> intro hc <;> try omega)
    refine K.AT.drop ?_
    refine K.a_round hKL (j + 1) (by omega) (by repeat (first | exact K.Sub.nil _ | refine K.Sub.cons rfl ?_)) rfl (by rw [no (by rw [hy]; simp)]) (by omega)
   | true =>
    (repeat' first | refine X.rq ?_ | refine X.rc ?_ ?_ <;> intro hc <;> try omega)
    refine X.draw ([blk B5 114 (loB l), blk d 109 [bufV (some bk) kept.length kept.length, bufV (some b) cache.length cap, .int .i64 trip, .bool dark, .int .i64 c1, .int .i64 c2, .int .i64 c3]]) [9] (.pu 0 (.pu 1 (.pu 2 (.pu 4 (.pu 6 (.st 3 (.st 5 (.st 7 (.pu 8 (.cl 9 .nil)))))))))) ?_ (hQ := by repeat (first | with_reducible refine K.NoPanic.then ?_ | with_reducible refine K.NoPanic.inBlock ?_ | with_reducible exact K.post_noPanic _ _ | exact K.post_noPanic _ _ | exact K.QN_noPanic | exact K.postS_noPanic | exact K.postX_noPanic | exact K.RPX_noPanic))
    refine K.d_pu rfl (fun _ _ => X.mv) rfl ?_
    refine K.d_pu rfl (fun _ _ => X.nc) rfl ?_
    refine K.d_pu rfl (fun _ _ => X.fa) rfl ?_
    refine K.d_pu rfl (fun _ _ => X.fa) rfl ?_
    refine K.d_pu rfl (fun _ _ => X.fa) rfl ?_
    refine K.d_st rfl X.ld rfl ?_
    refine K.d_st rfl X.ld rfl ?_
    refine K.d_st rfl (K.p_loadM (vs := seB l.2) (Fx.agg rfl) rfl (K.cels_own (pre := []) (cs := loB l) (post := []) 0 (by rw [List.nil_append, List.append_nil]; rfl) rfl).2 (Fx.sz rfl) (by rw [seB_len, hl2])) rfl ?_
    refine K.d_pu rfl (fun _ _ => X.ia) rfl ?_
    refine K.d_cl rfl (fun KK hKK => ?_)
    refine K.l_storePart (i := l.1) (c1 := []) (c2 := seB s0) (c3 := []) (us := seB l.2) 2 rfl (by rw [seB_len, hl2]; exact (Fx.sz rfl)) (by show some (Value.pointer (some ⟨bk, 0 + (l.1 : Int).toNat * 512, none⟩)) = _; rw [Nat.zero_add, Int.toNat_natCast]; rfl) rfl (seB_ones _) hz hsa (by rw [seB_len, seB_len, hl2, hs5]) ?_
    simp only [Go.K.nmz]
    refine K.l_nil ?_
    refine K.d_clE hKK ?_
    refine K.d_nil ?_
    (repeat' first | refine X.rq ?_ | refine X.rc ?_ ?_ <;> intro hc <;> try omega)
    refine K.AT.drop ?_
    rw [if_pos hy] at hset
    rw [List.append_nil, ← List.map_set, ← hset]
    refine K.a_round hKL (j + 1) (by omega) (by repeat (first | exact K.Sub.nil _ | refine K.Sub.cons rfl ?_)) rfl rfl (by omega)
  ·have hy : keep[j]? = none := List.getElem?_eq_none (by omega)
   (repeat' first | refine X.rq ?_ | refine X.rc ?_ ?_ <;> intro hc <;> try omega)
   all_goals try (exfalso; omega)
   refine K.AT.drop ?_
   refine K.a_round hKL (j + 1) (by omega) (by repeat (first | exact K.Sub.nil _ | refine K.Sub.cons rfl ?_)) rfl (by rw [no (by rw [hy]; simp)]) (by omega)
 ·obtain rfl : j = cache.length := by omega
  rw [List.take_length]
  (repeat' first | refine X.rq ?_ | refine X.rc ?_ ?_ <;> intro hc <;> try omega)
  refine K.l_call (Fx.cal rfl) rfl hem (K.pp [0, 0, 0] rfl) rfl ?_
  rintro u h1 H' - ⟨e, rfl, rfl⟩
  obtain rfl := e.symm
  simp only [Go.K.nmz]
  (repeat' first | refine X.rq ?_ | refine X.rc ?_ ?_ <;> intro hc <;> try omega)
  refine X.sto ?_
  simp only [Go.K.nmz]
  (repeat' first | refine X.rq ?_ | refine X.rc ?_ ?_ <;> intro hc <;> try omega)
  refine X.sto ?_
  simp only [Go.K.nmz]
  (repeat' first | refine X.rq ?_ | refine X.rc ?_ ?_ <;> intro hc <;> try omega)
  refine K.done (by first | exact Or.inl rfl | exact Or.inr rfl) rfl (by first | exact K.Base.le.refl _ | assumption) (H' := [_, _, _]) rfl ⟨rfl, rfl, rfl⟩
/-! ### Image -/
structure ImS where
 j : Nat
 a : Option Nat
 k : Nat
end Go.Proofs.YtmcdaegaopfihaaGreat.Wl
