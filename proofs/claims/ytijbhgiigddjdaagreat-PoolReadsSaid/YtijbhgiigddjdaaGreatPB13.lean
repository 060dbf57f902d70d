/-
  Texts joined: Sc KP KR KS KT KU. Conditions: each theorem's own.
-/
import Derived.Test.YtijbhgiigddjdaaGreatPB12
import Derived.Test.YtijbhgiigddjdaaGreatPB1
import Derived.Defers
import Derived.Recover
import Derived.RangeFuncLeaves
import Derived.RangeFuncSeq
import Derived.StillTail
import Derived.OrdersIn
import Derived.TacticsIn
import Derived.Test.YtijbhgiigddjdaaGreatPB11
set_option linter.unusedVariables false
set_option linter.unusedSimpArgs false
section
namespace Go.Proofs.YtijbhgiigddjdaaGreat.Wl
open Go Go.K Go.Proofs Go.Proofs.YtijbhgiigddjdaaGreat
set_option maxRecDepth 10000

/-! ### Write -/
def writeQ (D : Dk) (at_ : Int) (b : Sec) : Int × Dk := if at_ < 0 ∨ (D.kept.length : Int) ≤ at_ then (2, D) else if b.length ≠ 512 then (1, D) else if (goesQ D).1 then (0, { (goesQ D).2 with cache := D.cache ++ [(at_.toNat, b)] }) else (8, (goesQ D).2)
theorem build_lo (l : Loo) (h : l.2.length = 512) : fillL [(0, 1), (1, 512)] (.int .i64 0 :: nul 512) [(0, .int .i64 l.1), (1, .agg (seB l.2).toArray)] = some (loB l) := by
 have h5 : (seB l.2).length = 512 := by rw [seB_len, h]
 have e1 : (Value.agg (seB l.2).toArray).cells.toList = seB l.2 := rfl
 have e2 : (Value.int .i64 (l.1 : Int)).cells.toList = [Value.int .i64 (l.1 : Int)] := rfl
 have e3 : overL (.int .i64 0 :: nul 512) 0 [.int .i64 (l.1 : Int)] = .int .i64 (l.1 : Int) :: nul 512 := rfl
 have e4 : overL (.int .i64 (l.1 : Int) :: nul 512) 1 (seB l.2) = loB l := by
  unfold overL
  rw [h5, List.drop_of_length_le (by rw [List.length_cons, nul_len]; omega), List.append_nil]
  rfl
 simp only [fillL, List.getElem?_cons_zero, List.getElem?_cons_succ, e1, e2, e3, h5, List.length_cons, nul_len, e4]
 rfl
theorem BV.cels {h : Base} {ao : Option Addr} {n c : Nat} {l : List UInt8} (hb : BV h (.slice ao n c) l) (h0 : 0 < l.length) : n = l.length ∧ ∃ b o, ao = some ⟨b, o, none⟩ ∧ Cels h [] b o (l.map u8) := by
 rcases hb with ⟨_, _, _, rfl⟩ | ⟨b, o, c', e, _, hc⟩
 ·cases h0
 ·cases e; exact ⟨rfl, b, o, rfl, hc⟩
set_option maxHeartbeats 2000000 in
theorem Write (h : Base) (d : Nat) (M : DM) (D : Dk) (at_ : Int) (v : Value) (b : Sec) (hk : DkOk D) (ha1 : -9223372036854775808 ≤ at_) (ha2 : at_ ≤ 9223372036854775807) (hb : BV h v b) (hbl : b.length ≤ 9223372036854775807) :
  Tr Tryz.prog 9 [dv d, .int .i64 at_, v] h (dkA d M D) (fun u h' H' => u = .int .i64 (writeQ D at_ b).1 ∧ ∃ ac cap c, H' = dkA d { M with ac := ac, cap := cap, c2 := c } (writeQ D at_ b).2) := by
 have hp := hk.pos
 have hf := hk.few
 have hgo := Goes h d M D hk
 have hse := Sectors h d M D
 have hb0 := hb
 obtain ⟨ao, ca, rfl⟩ := hb.len
 refine K.enter Tryz.func9 rfl (Nat.le_of_ble_eq_true rfl) (fun F => ?_)
 by_cases hr : at_ < 0 ∨ (D.kept.length : Int) ≤ at_
 ·have er : writeQ D at_ b = (2, D) := by unfold writeQ; rw [if_pos hr]
  rw [er]
  by_cases h0 : at_ < 0
  ·(repeat' first | refine X.rq ?_ | refine X.rc ?_ ?_ <;> intro hc <;> try omega)
   all_goals try (exfalso; omega)
   exact K.dn (vs := [.int .i64 2]) rfl (K.Base.le.refl _) (H' := dkA d M D) rfl ⟨rfl, M.ac, M.cap, M.c2, rfl⟩
  ·(repeat' first | refine X.rq ?_ | refine X.rc ?_ ?_ <;> intro hc <;> try omega)
   all_goals try (exfalso; omega)
   refine K.l_callV (Fx.cal rfl) rfl hse (K.pp [0, 0, 0] rfl) rfl rfl ?_
   (repeat' first | refine X.rq ?_ | refine X.rc ?_ ?_ <;> intro hc <;> try omega)
   all_goals try (exfalso; omega)
   exact K.dn (vs := [.int .i64 2]) rfl (K.Base.le.refl _) (H' := dkA d M D) rfl ⟨rfl, M.ac, M.cap, M.c2, rfl⟩
 obtain ⟨a, rfl⟩ : ∃ a : Nat, at_ = (a : Int) := ⟨at_.toNat, by omega⟩
 have hal : a < D.kept.length := by omega
 (repeat' first | refine X.rq ?_ | refine X.rc ?_ ?_ <;> intro hc <;> try omega)
 all_goals try (exfalso; omega)
 refine K.l_callV (Fx.cal rfl) rfl hse (K.pp [0, 0, 0] rfl) rfl rfl ?_
 by_cases hb5 : b.length = 512
 rotate_left
 ·have er : writeQ D (a : Int) b = (1, D) := by unfold writeQ; rw [if_neg hr, if_pos hb5]
  rw [er]
  (repeat' first | refine X.rq ?_ | refine X.rc ?_ ?_ <;> intro hc <;> try omega)
  all_goals try (exfalso; omega)
  exact K.dn (vs := [.int .i64 1]) rfl (K.Base.le.refl _) (H' := dkA d M D) rfl ⟨rfl, M.ac, M.cap, M.c2, rfl⟩
 (repeat' first | refine X.rq ?_ | refine X.rc ?_ ?_ <;> intro hc <;> try omega)
 all_goals try (exfalso; omega)
 refine K.l_call (Fx.cal rfl) rfl hgo (K.pp [0, 0, 0] rfl) rfl ?_
 rintro u h1 H' - ⟨e, rfl, rfl⟩
 obtain rfl := e.symm
 have hk1 := hk.goes
 obtain ⟨ek, ec⟩ := goes_kept D
 cases hg : (goesQ D).1 with
 | false =>
  have er : writeQ D (a : Int) b = (8, (goesQ D).2) := by unfold writeQ; rw [if_neg hr, if_neg (by omega), hg]; rfl
  rw [er]
  (repeat' first | refine X.rq ?_ | refine X.rc ?_ ?_ <;> intro hc <;> try omega)
  exact K.dn (vs := [.int .i64 8]) rfl (K.Base.le.refl _) (H' := dkA d M (goesQ D).2) rfl ⟨rfl, M.ac, M.cap, M.c2, rfl⟩
 | true =>
  have er : writeQ D (a : Int) b = (0, { (goesQ D).2 with cache := D.cache ++ [(a, b)] }) := by unfold writeQ; rw [if_neg hr, if_neg (by omega), hg, Int.toNat_natCast]; rfl
  rw [er, ← ec]
  rw [← ek] at hal
  clear hgo hse hp hf hr er ek ec hk hg
  generalize (goesQ D).2 = D1 at *
  have hlo := lo_513 hk1
  have hsz := se_512 hk1
  have hroom := hk1.room
  have hf := hk1.few
  obtain ⟨kept, cache, trip, dark⟩ := D1
  obtain ⟨bk, ac, cap, c1, c2, c3⟩ := M
  dsimp only at hal hlo hsz hroom hf ⊢
  unfold dkA dkV keptA cacheA
  simp only [List.cons_append, List.nil_append]
  obtain ⟨_, bb, oo, rfl, hcel⟩ := BV.cels hb0 (by omega)
  have hb6 : (List.map u8 b).length = 512 := by rw [List.length_map, hb5]
  have hl5 : (loB (a, b)).length = 513 := by rw [loB_len]; show b.length + 1 = 513; omega
  (repeat' first | refine X.rq ?_ | refine X.rc ?_ ?_ <;> intro hc <;> try omega)
  refine X.sto ?_
  simp only [Go.K.nmz]
  (repeat' first | refine X.rq ?_ | refine X.rc ?_ ?_ <;> intro hc <;> try omega)
  refine X.draw ([blk d 98 [bufV (some bk) kept.length kept.length, bufV ac cache.length cap, .int .i64 trip, .bool dark, .int .i64 c1, .int .i64 (IntKind.i64.wrap (c2 + 1)), .int .i64 c3]]) [14] (.pu 0 (.pu 1 (.pu 2 (.pu 3 (.pu 5 (.pu 6 (.pu 7 (.st 4 (.st 8 (.pu 9 (.on 10 (.on 11 (.pu 12 (.pu 13 (.cl 14 .nil))))))))))))))) ?_ (hQ := by repeat (first | with_reducible refine K.NoPanic.then ?_ | with_reducible refine K.NoPanic.inBlock ?_ | with_reducible exact K.post_noPanic _ _ | exact K.post_noPanic _ _ | exact K.QN_noPanic | exact K.postS_noPanic | exact K.postX_noPanic | exact K.RPX_noPanic))
  refine K.d_pu rfl (fun _ _ => X.mv) rfl ?_
  refine K.d_pu rfl (fun _ _ => X.mv) rfl ?_
  refine K.d_pu rfl (fun _ _ => X.nc) rfl ?_
  refine K.d_pu rfl (fun _ _ => X.fa) rfl ?_
  refine K.d_pu rfl (fun _ _ => X.mv) rfl ?_
  refine K.d_pu rfl (fun _ _ => X.mv) rfl ?_
  refine K.d_pu rfl (fun _ _ => K.p_arrAt (m := 512) (Fx.und rfl) rfl (show 512 ≤ b.length by omega)) rfl ?_
  refine K.d_st rfl X.ld rfl ?_
  refine K.d_st rfl (K.p_loadM (Fx.agg rfl) rfl (Cels.up hcel) (Fx.sz rfl) hb6) rfl ?_
  refine K.d_pu rfl (fun _ _ => K.p_build plL zrL rfl (build_lo (a, b) hb5)) rfl ?_
  refine K.d_on rfl (fun KK hKK => ?_)
  refine K.l_buildSlice (cs := loB (a, b)) (Fx.und rfl) (Fx.sz rfl) rfl zrL rfl rfl (by simp [seqOk, Value.cells, hl5]) (by simp [cellsL, Value.cells]) rfl (fun B9 => ?_)
  refine K.l_nil ?_
  refine X.onE hKK ?_
  refine K.d_on rfl (fun KK hKK => ?_)
  refine K.l_append_at 3 rfl (Fx.und rfl) (Fx.und rfl) rfl (Fx.sz rfl) zrL rfl (Fx.byt rfl) rfl rfl (K.src_cells (m := 1) (K.cels_own (pre := []) (cs := loB (a, b)) (post := []) 0 (by rw [List.nil_append, List.append_nil]; rfl) rfl) (by rw [hl5]) (List.all_eq_true.1 (loB_ones (a, b)))) (by omega) (by omega) rfl (fun a' cap' => ?_)
  refine K.l_nil ?_
  refine X.onE hKK ?_
  refine K.d_pu rfl (fun _ _ => X.nc) rfl ?_
  refine K.d_pu rfl (fun _ _ => X.fa) rfl ?_
  refine K.d_cl rfl (fun KK hKK => ?_)
  refine X.sto ?_
  refine K.l_nil ?_
  refine K.d_clE hKK ?_
  refine K.d_nil ?_
  (repeat' first | refine X.rq ?_ | refine X.rc ?_ ?_ <;> intro hc <;> try omega)
  refine K.AT.drop ?_
  exact K.dn (vs := [.int .i64 0]) rfl (K.Base.le.refl _) (H' := [_, _, _]) rfl ⟨rfl, a', cap', IntKind.i64.wrap (c2 + 1), by simp [dkA, dkV, keptA, cacheA]⟩
/-! ### Sync -/
def setL (kept : List Sec) (cache : List Loo) : List Sec := cache.foldl (fun k l => k.set l.1 l.2) kept
theorem setL_snoc (kept : List Sec) (cache : List Loo) (l : Loo) : setL kept (cache ++ [l]) = (setL kept cache).set l.1 l.2 := by unfold setL; rw [List.foldl_append]; rfl
theorem setL_len (kept : List Sec) : ∀ cache : List Loo, (setL kept cache).length = kept.length := by
 intro cache
 unfold setL
 induction cache generalizing kept with
 | nil => rfl
 | cons l r ih => rw [List.foldl_cons, ih, List.length_set]
theorem mem_set {α : Type} {k : List α} {i : Nat} {x y : α} (h : y ∈ k.set i x) : y = x ∨ y ∈ k := by
 rcases List.mem_or_eq_of_mem_set h with h | h
 ·exact .inr h
 ·exact .inl h
theorem setL_512 {kept : List Sec} (hk : ∀ s ∈ kept, s.length = 512) : ∀ {cache : List Loo}, (∀ l ∈ cache, l.2.length = 512) → ∀ s ∈ setL kept cache, s.length = 512 := by
 intro cache
 unfold setL
 induction cache generalizing kept with
 | nil => intro _; exact hk
 | cons l r ih =>
  intro hc
  rw [List.foldl_cons]
  refine ih (fun s hs => ?_) fun x hx => hc x (List.mem_cons_of_mem _ hx)
  rcases mem_set hs with rfl | hs
  ·exact hc l (List.mem_cons_self ..)
  ·exact hk s hs
def syncQ (D : Dk) : Int × Dk := if (goesQ D).1 then (0, { (goesQ D).2 with kept := setL D.kept D.cache, cache := [] }) else (8, (goesQ D).2)
set_option maxHeartbeats 2000000 in
theorem Sync (h : Base) (d : Nat) (M : DM) (D : Dk) (hk : DkOk D) :
  Tr Tryz.prog 52 [dv d] h (dkA d M D) (fun u h' H' => u = .int .i64 (syncQ D).1 ∧ ∃ c, H' = dkA d { M with c3 := c } (syncQ D).2) := by
 have hgo := Goes h d M D hk
 refine K.enter Tryz.func52 rfl (Nat.le_of_ble_eq_true rfl) (fun F => ?_)
 (repeat' first | refine X.rq ?_ | refine X.rc ?_ ?_ <;> intro hc <;> try omega)
 refine K.l_call (Fx.cal rfl) rfl hgo (K.pp [0, 0, 0] rfl) rfl ?_
 rintro u h1 H' - ⟨e, rfl, rfl⟩
 obtain rfl := e.symm
 have hk1 := hk.goes
 obtain ⟨ek, ec⟩ := goes_kept D
 cases hg : (goesQ D).1 with
 | false =>
  have er : syncQ D = (8, (goesQ D).2) := by unfold syncQ; rw [hg]; rfl
  rw [er]
  (repeat' first | refine X.rq ?_ | refine X.rc ?_ ?_ <;> intro hc <;> try omega)
  exact K.dn (vs := [.int .i64 8]) rfl (K.Base.le.refl _) (H' := dkA d M (goesQ D).2) rfl ⟨rfl, M.c3, rfl⟩
 | true =>
  have er : syncQ D = (0, { (goesQ D).2 with kept := setL D.kept D.cache, cache := [] }) := by unfold syncQ; rw [hg]; rfl
  rw [er, ← ec, ← ek]
  clear hgo er ek ec hk hg
  generalize (goesQ D).2 = D1 at *
  have hlo := lo_513 hk1
  have hroom := hk1.room
  have hf := hk1.few
  have hlos := hk1.los
  have hsecs := hk1.secs
  have hem := fun c => Empty h d { M with c3 := c } { D1 with kept := setL D1.kept D1.cache } (fun l hl => (hk1.los l hl).2)
  obtain ⟨kept, cache, trip, dark⟩ := D1
  obtain ⟨bk, ac, cap, c1, c2, c3⟩ := M
  dsimp only at hlo hroom hf hlos hsecs hem ⊢
  unfold dkA dkV keptA cacheA at hem ⊢
  dsimp only at hem ⊢
  rw [setL_len] at hem ⊢
  simp only [List.cons_append, List.nil_append]
  (repeat' first | refine X.rq ?_ | refine X.rc ?_ ?_ <;> intro hc <;> try omega)
  refine X.sto ?_
  simp only [Go.K.nmz]
  (repeat' first | refine X.rq ?_ | refine X.rc ?_ ?_ <;> intro hc <;> try omega)
  refine K.c_loop (σ := Nat) (fun j => [(0, dv d), (20, bufV ac cache.length cap), (21, .int .i64 cache.length), (22, .int .i64 j)]) (fun _ => h)
   (fun j => blk d 98 [bufV (some bk) kept.length kept.length, bufV ac cache.length cap, .int .i64 trip, .bool dark, .int .i64 c1, .int .i64 c2, .int .i64 (IntKind.i64.wrap (c3 + 1))] :: bufA 99 512 (some bk) kept.length kept.length ((setL kept (cache.take j)).map seB).flatten :: bufA 101 513 ac cache.length cap (cache.map loB).flatten :: F)
   (fun j => j ≤ cache.length) (fun j => cache.length - j) 0 (Nat.zero_le _) (by repeat (first | exact K.Sub.nil _ | refine K.Sub.cons rfl ?_)) rfl rfl ?_
  rintro j hj KL hKL
  by_cases hjl : j < cache.length
  ·refine K.WC.someBuf 2 rfl (by omega) (fun b hb' => ?_)
   subst hb'
   obtain ⟨l, hl⟩ : ∃ l, cache[j]? = some l := ⟨_, List.getElem?_eq_getElem hjl⟩
   have hla : (cache.map loB)[j]? = some (loB l) := by rw [List.getElem?_map, hl]; rfl
   have hl5 : (loB l).length = 513 := hlo _ (List.mem_of_getElem? hla)
   obtain ⟨hl1, hl2⟩ := hlos l (List.mem_of_getElem? hl)
   have hset : setL kept (cache.take (j + 1)) = (setL kept (cache.take j)).set l.1 l.2 := by
    rw [List.take_add_one, hl]; exact setL_snoc _ _ _
   have hkl : (setL kept (cache.take j)).length = kept.length := setL_len _ _
   have hk5 : ∀ s ∈ setL kept (cache.take j), s.length = 512 := setL_512 hsecs fun l hl => (hlos l (List.mem_of_mem_take hl)).2
   have hz : ∀ e ∈ (setL kept (cache.take j)).map seB, e.length = 512 := fun e he => by
    obtain ⟨x, hx, rfl⟩ := List.mem_map.1 he
    rw [seB_len, hk5 x hx]
   obtain ⟨s0, hs0⟩ : ∃ s0, (setL kept (cache.take j))[l.1]? = some s0 := ⟨_, List.getElem?_eq_getElem (by omega)⟩
   have hsa : ((setL kept (cache.take j)).map seB)[l.1]? = some ([] ++ seB s0 ++ []) := by rw [List.getElem?_map, hs0, List.nil_append, List.append_nil]; rfl
   have hs5 := hk5 s0 (List.mem_of_getElem? hs0)
   (repeat' first | refine X.rq ?_ | refine X.rc ?_ ?_ <;> intro hc <;> try omega)
   rw [show 0 + (j : Int).toNat * 513 = j * 513 by omega]
   refine K.s_pure (K.p_loadM (Fx.agg rfl) rfl (K.cels_rowZ 2 rfl hlo hla) (Fx.sz rfl) hl5) rfl ?_
   refine K.l_alloc zrL rfl rfl (fun B4 => ?_)
   refine K.l_storeW_at 0 rfl (by rw [hl5]; exact (Fx.sz rfl)) rfl rfl (loB_ones _) (by rw [hl5, List.length_cons, nul_len]) rfl ?_
   simp only [Go.K.nmz]
   (repeat' first | refine X.rq ?_ | refine X.rc ?_ ?_ <;> intro hc <;> try omega)
   refine X.draw ([blk B4 101 (loB l), blk d 98 [bufV (some bk) kept.length kept.length, bufV (some b) cache.length cap, .int .i64 trip, .bool dark, .int .i64 c1, .int .i64 c2, .int .i64 (IntKind.i64.wrap (c3 + 1))]]) [9] (.pu 0 (.pu 1 (.pu 2 (.pu 4 (.pu 6 (.st 3 (.st 5 (.st 7 (.pu 8 (.cl 9 .nil)))))))))) ?_ (hQ := by repeat (first | with_reducible refine K.NoPanic.then ?_ | with_reducible refine K.NoPanic.inBlock ?_ | with_reducible exact K.post_noPanic _ _ | exact K.post_noPanic _ _ | exact K.QN_noPanic | exact K.postS_noPanic | exact K.postX_noPanic | exact K.RPX_noPanic))
   refine K.d_pu rfl (fun _ _ => X.mv) rfl ?_
   refine K.d_pu rfl (fun _ _ => X.nc) rfl ?_
   refine K.d_pu rfl (fun _ _ => X.fa) rfl ?_
   refine K.d_pu rfl (fun _ _ => X.fa) rfl ?_
   refine K.d_pu rfl (fun _ _ => X.fa) rfl ?_
   refine K.d_st rfl X.ld rfl ?_
   refine K.d_st rfl X.ld rfl ?_
   refine K.d_st rfl (K.p_loadM (vs := seB l.2) (Fx.agg rfl) rfl (K.cels_own (pre := []) (cs := loB l) (post := []) 0 (by rw [List.nil_append, List.append_nil]; rfl) rfl).2 (Fx.sz rfl) (by rw [seB_len, hl2])) rfl ?_
   refine K.d_pu rfl (fun _ _ => X.ia) rfl ?_
   refine K.d_cl rfl (fun KK hKK => ?_)
   refine K.l_storePart (i := l.1) (c1 := []) (c2 := seB s0) (c3 := []) (us := seB l.2) 2 rfl (by rw [seB_len, hl2]; exact (Fx.sz rfl)) (by show some (Value.pointer (some ⟨bk, 0 + (l.1 : Int).toNat * 512, none⟩)) = _; rw [Nat.zero_add, Int.toNat_natCast]; rfl) rfl (seB_ones _) hz hsa (by rw [seB_len, seB_len, hl2, hs5]) ?_
   simp only [Go.K.nmz]
   refine K.l_nil ?_
   refine K.d_clE hKK ?_
   refine K.d_nil ?_
   (repeat' first | refine X.rq ?_ | refine X.rc ?_ ?_ <;> intro hc <;> try omega)
   refine K.AT.drop ?_
   rw [List.append_nil, ← List.map_set, ← hset]
   refine K.a_round hKL (j + 1) (by omega) (by repeat (first | exact K.Sub.nil _ | refine K.Sub.cons rfl ?_)) rfl rfl (by omega)
  ·obtain rfl : j = cache.length := by omega
   rw [List.take_length]
   (repeat' first | refine X.rq ?_ | refine X.rc ?_ ?_ <;> intro hc <;> try omega)
   refine K.l_call (Fx.cal rfl) rfl (hem (IntKind.i64.wrap (c3 + 1))) (K.pp [0, 0, 0] rfl) rfl ?_
   rintro u h1 H' - ⟨e, rfl, rfl⟩
   obtain rfl := e.symm
   (repeat' first | refine X.rq ?_ | refine X.rc ?_ ?_ <;> intro hc <;> try omega)
   exact K.dn (vs := [.int .i64 0]) rfl (K.Base.le.refl _) (H' := [_, _, _]) rfl ⟨rfl, IntKind.i64.wrap (c3 + 1), by simp [dkA, dkV, keptA, cacheA, setL_len]⟩
/-! ### Cut -/
def cutL (kept : List Sec) (cache : List Loo) (keep : List Bool) : List Sec := (cache.zip keep).foldl (fun k x => if x.2 then k.set x.1.1 x.1.2 else k) kept
def cutQ (D : Dk) (keep : List Bool) : Dk := ⟨cutL D.kept D.cache keep, [], -1, false⟩
/-! ### Image -/
structure ImS where
 j : Nat
 a : Option Nat
 k : Nat
end Go.Proofs.YtijbhgiigddjdaaGreat.Wl
end

section
namespace Go.K
open Go

abbrev up1 (v : Value) : List PanicEntry := [{ v := v, recovered := false }]
def TrX (P : Program) (f : FuncId) (args : List Value) (h : Base) (Pre : List Asrt) (Post PX : Value → Base → List Asrt → Prop) : Prop :=
 ∀ F w, Ok h (Pre ++ F) w → Calls P f args.toArray w fun e w' => (∃ v, e = .returned v ∧ ∃ h' H', h.le h' ∧ Post v h' H' ∧ Ok h' (H' ++ F) w') ∨ ∃ v, e = .panicked (up1 v) ∧ ∃ h' H', h.le h' ∧ PX v h' H' ∧ Ok h' (H' ++ F) w'
def postX (P : Program) (fn : Func) (R RX : Value → World → Prop) : Exit → Act → World → Prop := bodyPost P fn fun e w' => (∃ v, e = .returned v ∧ R v w') ∨ ∃ v, e = .panicked (up1 v) ∧ RX v w'
section
variable {P : Program} {n : NN} {Q : Exit → Act → World → Prop} {E : Env} {h : Base} {H : List Asrt} {ops : Array Oper} {rest : List Oper}
variable {d : Nat} {ty : TypeId} {ps : String} {af : Array Edge}
end
end Go.K
end

section
namespace Go.K
open Go

section
variable {P : Program} {n : NN} {Q : Exit → Act → World → Prop} {E : Env} {h h' h0 : Base} {H K R F : List Asrt} {ops : Array Oper} {rest : List Oper}
variable {op : Op} {t t' ty : TypeId} {ps : String} {af : Array Edge} {d i b : Nat} {v : Value} {x y : Operand} {dst : Option Nat} {g : Option (Nat × Bool)} {σ : Sch} {ro : Option Nat}

def Wd (ro : Option Nat) : Fence := { Fence.wide with round := ro }
def plainOp (o : Oper) : Bool := match o.op with
 | .defer _ => false
 | _ => true
/-! ### Code in a round's frame -/
structure WR (P : Program) (n : NN) (ro : Option Nat) (c : Code) (Q : Exit → Act → World → Prop) (E : Env) (h : Base) (H : List Asrt) : Prop where
 run : ∀ a w, Fr n E a → Ok h H w → c.wpIn (Wd ro) 0 P Q a w
/-! ### Calls of yield -/
def YieldK (P : Program) (l : Nat) {α : Type} (Enc : Base → α → List Value → Prop) (J Jx : List α → Base → Asrt → Prop) (xs : List α) : Prop :=
 ∀ pre x h args A R w, pre ++ [x] <+: xs → Enc h x args → J pre h A → Ok h (A :: R) w →
  YieldAt (Wd none) 0 P l args.toArray w fun e w' => ∃ h' A', h.le h' ∧ Ok h' (A' :: R) w' ∧ ((e = .returned (.bool true) ∧ J (pre ++ [x]) h' A') ∨ (e = .returned (.bool false) ∧ Jx (pre ++ [x]) h' A'))

/-! ### A region that draws its order, with a call of yield behind all else -/
def backB (ops : Array Oper) (k : Nat) : Bool := (List.range k).all fun i => match ops[i]? with
 | some o => o.guard.isNone && plainOp o && o.after.all fun e => Nat.blt e.on i
 | none => false
def tailB (ops : Array Oper) (k : Nat) : Bool :=
 Nat.blt k ops.size && Region.sinkB .any ops k && Region.chainB .any ops k && backB ops k && Region.seqB .any ops (ops.size - k) k ((List.replicate k true ++ List.replicate (ops.size - k) false).toArray)

/-! ### What an iterator promises; the statement -/
def IterK (P : Program) (gf : Nat) (lb : List Value) {α : Type} (Enc : Base → α → List Value → Prop) (h0 : Base) (Pre : List Asrt) (xs : List α) : Prop :=
 ∀ (l : Nat) (J Jx : List α → Base → Asrt → Prop), (∀ pre h h' A, h.le h' → J pre h A → J pre h' A) → (∀ pre h h' A, h.le h' → Jx pre h A → Jx pre h' A) → YieldK P l Enc J Jx xs →
  ∀ F A w h, h0.le h → J [] h A → Ok h (Pre ++ A :: F) w →
   CallsIn (Wd none) 0 P gf (.func (.yield l) #[] #[] :: lb).toArray w fun e w' => (∃ v, e = .returned v) ∧ ∃ h' A', h.le h' ∧ Ok h' (Pre ++ A' :: F) w' ∧ (J xs h' A' ∨ ∃ pre, pre <+: xs ∧ Jx pre h' A')

def envP : List Nat → List Value → Env → Env
 | p :: ps, v :: vs, E => envP ps vs ((p, v) :: E)
 | _, _, E => E
abbrev mark (D : Nat) : Deferred := { target := .collected D, args := #[] }
def RP {α : Type} (J : List α → Base → Asrt → Prop) (Jx : Code → List α → Base → Asrt → Prop) (pre : List α) (h : Base) (R : List Asrt) : Exit → Act → World → Prop
 | .normal, _, w => ∃ h' A', h.le h' ∧ J pre h' A' ∧ Ok h' (A' :: R) w
 | .ret, _, w => ∃ h' A', h.le h' ∧ Jx .ret pre h' A' ∧ Ok h' (A' :: R) w
 | .exit id, _, w => ∃ h' A', h.le h' ∧ Jx (.exit id) pre h' A' ∧ Ok h' (A' :: R) w
 | .goto q, _, w => ∃ h' A', h.le h' ∧ Jx (.goto q) pre h' A' ∧ Ok h' (A' :: R) w
 | .panic _, _, _ => False
 | .outgrown, _, _ => False
def AP (n : NN) (E : Env) (h : Base) (H : List Asrt) : Exit → Act → World → Prop := Exit.then (fun a w => Fr n E a ∧ Ok h H w) (fun _ _ _ => False)

/-! ### Functions that leave with a mark -/
def postM (P : Program) (fn : Func) (R : Value → World → Prop) : Exit → Act → World → Prop := bodyPostM Fence.wide 0 P fn fun e w' => ∃ v, e = .returned v ∧ R v w'
end
end Go.K
end

section
namespace Go.K
open Go
set_option linter.unusedSectionVars false

section
variable {P : Program} {n : NN} {Q : Exit → Act → World → Prop} {E : Env} {h h' h0 : Base} {H K R F : List Asrt} {ops : Array Oper} {rest : List Oper}
variable {op : Op} {t t' ty : TypeId} {ps : String} {af : Array Edge} {d i b : Nat} {v : Value} {x y : Operand} {dst : Option Nat} {g : Option (Nat × Bool)} {ro : Option Nat}

theorem run_callB {f : FuncId} {args : List Operand} {vals fst caps : List Value} {ats : Array TypeId} {a : Act} {w : World} (hc : Callable P f) (fa : Fr n E a) (hx : lkO E x = some (.func (.func f) fst.toArray caps.toArray)) (ha : evArgs E args = some vals) :
  (execOp a.eval ⟨dst, .call ⟨.value x, args.toArray, ats⟩, ty, ps, af, g⟩).run P w = .ok (.enter f (fst ++ vals ++ caps).toArray) w := by
 have h1 := evArgs_eval fa args vals ha
 have h2 : args.toArray.map a.eval = vals.toArray := by rw [List.map_toArray, h1]
 simp only [execOp, resolve, fa.eval hx, Deferred.ofValue, h2, Sem.run_bind, Sem.run_pure, Result.andThen_ok, invoke]
 simp only [List.append_toArray]
 exact hc _ _
theorem l_callB {f : FuncId} {args : List Operand} {vals fst caps : List Value} {ats : Array TypeId} {Pre F : List Asrt} {Post : Value → Base → List Asrt → Prop} (hc : Callable P f) (hx : lkO E x = some (.func (.func f) fst.toArray caps.toArray)) (ha : evArgs E args = some vals) (ht : Tr P f (fst ++ vals ++ caps) h Pre Post)
  (hp : H.Perm (Pre ++ F)) (hd : Nat.blt d n = true) (hk : ∀ v h' H', h.le h' → Post v h' H' → WL P n ops Q rest ((d, v) :: E) h' (H' ++ F)) :
  WL P n ops Q (⟨some d, .call ⟨.value x, args.toArray, ats⟩, ty, ps, af, none⟩ :: rest) E h H :=
 ⟨fun a w fa ok => wpList_plain rfl fun K hK => by
  unfold Oper.wp
  rw [run_callB hc fa hx ha, Oper.upon_enter]
  refine Calls.mono (ht F w (ok.perm hp)) ?_
  rintro e w' ⟨v, rfl, h', H', hle, hP, ok'⟩
  exact hK _ _ ((hk v h' H' hle hP).run _ _ (fa.put v hd) ok')⟩
/-! ### What is put off; what catches -/
def postD (P : Program) (fn : Func) (R : Value → World → Prop) : Exit → Act → World → Prop := bodyPostD P fn fun e w' => ∃ v, e = .returned v ∧ R v w'
def TrD (P : Program) (f : FuncId) (args : List Value) (u : FrameMode) (h : Base) (Pre : List Asrt) (Post : FrameMode → Base → List Asrt → Prop) : Prop :=
 ∀ F w, Ok h (Pre ++ F) w → CallsD P f args.toArray u w fun e u' w' => (∃ v, e = .returned v) ∧ ∃ h' H', h.le h' ∧ Post u' h' H' ∧ Ok h' (H' ++ F) w'
def modeOf : Exit → FrameMode
 | .panic ch => .panicking ch
 | _ => .returning
def postS (P : Program) (fn : Func) (R : World → Prop) : Exit → Act → World → Prop
 | .normal, a, w | .ret, a, w => a.defers = [] ∧ (∃ v, (results fn a.tmps).run P w = .ok v w) ∧ R w
 | _, _, _ => False
end
/-! ### Code in a sane frame -/
def wpB (P : Program) (c : Code) (Q : Exit → Act → World → Prop) (a : Act) (w : World) : Prop :=
 ∀ (b : Frame) (k : List Item) (cs : List Frame), (∃ fn, P.funcs[b.fn]? = some fn) → ∃ e a' w', Q e a' w' ∧ Arrives P (lone (b.at a (.code c :: k)) cs w) b k cs e a' w'
section
variable {P : Program} {n : NN} {Q : Exit → Act → World → Prop} {E : Env} {h h' h0 : Base} {H K R F : List Asrt} {ops : Array Oper} {rest : List Oper}
variable {op : Op} {t t' ty : TypeId} {ps : String} {af : Array Edge} {d i b : Nat} {v : Value} {x y : Operand} {dst : Option Nat} {g : Option (Nat × Bool)} {ro : Option Nat}
structure WB (P : Program) (n : NN) (c : Code) (Q : Exit → Act → World → Prop) (E : Env) (h : Base) (H : List Asrt) : Prop where
 run : ∀ a w, Fr n E a → Ok h H w → wpB P c Q a w
/-! ### A round that may let something come up -/
def roundPostX (P : Program) (l : Nat) (R : Ending → World → Prop) : Exit → Act → World → Prop
 | .normal, _, w => ∃ v w', (Instr.endRound l none).run P w = .ok v w' ∧ R (.returned v) w'
 | .ret, _, w => ∃ v w', (Instr.endRound l (some .ret)).run P w = .ok v w' ∧ R (.returned v) w'
 | .exit id, _, w => ∃ v w', (Instr.endRound l (some (.exit id))).run P w = .ok v w' ∧ R (.returned v) w'
 | .goto t, _, w => ∃ v w', (Instr.endRound l (some (.goto t))).run P w = .ok v w' ∧ R (.returned v) w'
 | .panic ch, a, w => a.defers = [] ∧ R (.panicked ch) w
 | .outgrown, _, _ => False
/-! ### What an iterator promises -/
def YieldX (P : Program) (l : Nat) {α : Type} (Enc : Base → α → List Value → Prop) (J Jx : List α → Base → Asrt → Prop) (JP : Value → List α → Base → Asrt → Prop) (xs : List α) : Prop :=
 ∀ pre x h args A R w, pre ++ [x] <+: xs → Enc h x args → J pre h A → Ok h (A :: R) w →
  YieldAt (Wd none) 0 P l args.toArray w fun e w' => ∃ h' A', h.le h' ∧ Ok h' (A' :: R) w' ∧ ((e = .returned (.bool true) ∧ J (pre ++ [x]) h' A') ∨ (e = .returned (.bool false) ∧ Jx (pre ++ [x]) h' A') ∨ ∃ v, e = .panicked (up1 v) ∧ JP v (pre ++ [x]) h' A')
def IterX (P : Program) (gf : Nat) (lb : List Value) {α : Type} (Enc : Base → α → List Value → Prop) (h0 : Base) (Pre : List Asrt) (xs : List α) : Prop :=
 ∀ (l : Nat) (J Jx : List α → Base → Asrt → Prop) (JP : Value → List α → Base → Asrt → Prop), (∀ pre h h' A, h.le h' → J pre h A → J pre h' A) → (∀ pre h h' A, h.le h' → Jx pre h A → Jx pre h' A) → (∀ v pre h h' A, h.le h' → JP v pre h A → JP v pre h' A) → YieldX P l Enc J Jx JP xs →
  ∀ F A w h, h0.le h → J [] h A → Ok h (Pre ++ A :: F) w →
   Calls P gf (.func (.yield l) #[] #[] :: lb).toArray w fun e w' => ∃ h' A', h.le h' ∧ Ok h' (Pre ++ A' :: F) w' ∧ (((∃ v, e = .returned v) ∧ (J xs h' A' ∨ ∃ pre, pre <+: xs ∧ Jx pre h' A')) ∨ ∃ v pre, e = .panicked (up1 v) ∧ pre <+: xs ∧ JP v pre h' A')
def postI (P : Program) (fn : Func) (X : World → Prop) (XP : Value → World → Prop) : Exit → Act → World → Prop := bodyPost P fn fun e w' => ((∃ v, e = .returned v) ∧ X w') ∨ ∃ v, e = .panicked (up1 v) ∧ XP v w'
/-! ### The statement -/
def RPX {α : Type} (J : List α → Base → Asrt → Prop) (Jx : Code → List α → Base → Asrt → Prop) (JP : Value → List α → Base → Asrt → Prop) (pre : List α) (h : Base) (R : List Asrt) : Exit → Act → World → Prop
 | .normal, _, w => ∃ h' A', h.le h' ∧ J pre h' A' ∧ Ok h' (A' :: R) w
 | .ret, _, w => ∃ h' A', h.le h' ∧ Jx .ret pre h' A' ∧ Ok h' (A' :: R) w
 | .exit id, _, w => ∃ h' A', h.le h' ∧ Jx (.exit id) pre h' A' ∧ Ok h' (A' :: R) w
 | .goto q, _, w => ∃ h' A', h.le h' ∧ Jx (.goto q) pre h' A' ∧ Ok h' (A' :: R) w
 | .panic ch, a, w => a.defers = [] ∧ ∃ v, ch = up1 v ∧ ∃ h' A', h.le h' ∧ JP v pre h' A' ∧ Ok h' (A' :: R) w
 | .outgrown, _, _ => False
end
/-! ### Ranges and their marks -/
section
variable {P : Program} {n : NN} {Q : Exit → Act → World → Prop} {E : Env} {h h' h0 : Base} {H K R F : List Asrt} {ops : Array Oper} {rest : List Oper}
def marksA (Ds : List Nat) : List Asrt := Ds.map fun D => objA D (.deferred (some []))
def postMX (P : Program) (fn : Func) (R RX : Value → World → Prop) : Exit → Act → World → Prop := bodyPostM Fence.wide 0 P fn fun e w' => (∃ v, e = .returned v ∧ R v w') ∨ ∃ v, e = .panicked (up1 v) ∧ RX v w'
end
end Go.K
end

section
namespace Go.K
open Go
set_option linter.unusedSectionVars false
section
variable {P : Program} {n : NN} {Q : Exit → Act → World → Prop} {E : Env} {h h' h0 : Base} {H K R F : List Asrt} {ops : Array Oper} {rest : List Oper}
variable {op : Op} {t t' ty : TypeId} {ps : String} {af : Array Edge} {d i b : Nat} {v : Value} {x y : Operand} {dst : Option Nat} {g : Option (Nat × Bool)} {dd : TypeDesc}
def isFn : TypeDesc → Bool | .func _ _ _ => true | _ => false
def isIfc : TypeDesc → Bool | .interface _ => true | _ => false
theorem p_makeFuncB {f : FuncId} {fst caps : List Operand} {vs us : List Value} (hf : evArgs E fst = some vs) (ha : evArgs E caps = some us) : Pu P n E h K ⟨dst, .makeFunc (.func f) fst.toArray caps.toArray, ty, ps, af, g⟩ (.func (.func f) vs.toArray us.toArray) :=
 ⟨fun s w fa _ => by
  have h1 := evArgs_eval fa caps us ha
  have h2 := evArgs_eval fa fst vs hf
  simp [execOp, Instr.makeFunc, h1, h2]⟩

/-! ### Nothing comes up -/
def QN (Q : Exit → Act → World → Prop) : Exit → Act → World → Prop
 | .panic _, _, _ => False
 | e, a, w => Q e a w
end
end Go.K
end

section
namespace Go.K
open Go
set_option linter.unusedSectionVars false
section
variable {P : Program} {n : NN} {Q : Exit → Act → World → Prop} {E : Env} {h h' h0 : Base} {H K R F : List Asrt} {ops : Array Oper} {rest : List Oper}
variable {op : Op} {t t2 ty : TypeId} {ps : String} {af : Array Edge} {d : Nat} {v : Value} {x y : Operand} {dst : Option Nat}
end
end Go.K
end
