/-
 The disk: made, read, written, synced, cut, told. Conditions: each theorem's own.
-/
import Derived.Test.YtmcdaegaopfihaaGreatY26
namespace Go.Proofs.YtmcdaegaopfihaaGreat.Wl
open Go Go.K Go.Proofs Go.Proofs.YtmcdaegaopfihaaGreat
set_option linter.unusedVariables false
set_option linter.unusedSimpArgs false
set_option maxRecDepth 10000

theorem rep_flat (zs : List Value) : ∀ (m i : Nat), i < m * zs.length → (List.replicate m zs).flatten[i]? = zs[i % zs.length]?
 | 0, i, hi => by simp at hi
 | m + 1, i, hi => by
  rw [List.replicate_succ, List.flatten_cons]
  by_cases h : i < zs.length
  ·rw [List.getElem?_append_left h, Nat.mod_eq_of_lt h]
  ·rw [List.getElem?_append_right (by omega), rep_flat zs m (i - zs.length) (by rw [Nat.add_mul] at hi; omega)]
   congr 1
   rw [← Nat.mod_eq_sub_mod (by omega)]
theorem made_rows (zs : List Value) (m c : Nat) (hm : m ≤ c) (hz : 0 < zs.length) : (madeCells zs.toArray (c * zs.length)).toList.take (m * zs.length) = (List.replicate m zs).flatten := by
 have hmc : m * zs.length ≤ c * zs.length := Nat.mul_le_mul_right _ hm
 have hfl : (List.replicate m zs).flatten.length = m * zs.length := by rw [K.flatten_len (s := zs.length) _ fun e he => by rw [List.eq_of_mem_replicate he], List.length_replicate]
 refine List.ext_getElem? fun i => ?_
 by_cases hi : i < m * zs.length
 ·rw [List.getElem?_take, if_pos hi, rep_flat zs m i hi]
  simp only [madeCells, List.size_toArray, Array.toList_map, Array.toList_range, List.getElem?_map]
  rw [List.getElem?_range (by omega)]
  have hlt := Nat.mod_lt i hz
  simp [hlt]
 ·have hml : (madeCells zs.toArray (c * zs.length)).toList.length = c * zs.length := (Array.length_toList ..).trans (size_madeCells _ _)
  rw [List.getElem?_eq_none (by rw [List.length_take, hml]; omega), List.getElem?_eq_none (by omega)]

def zs : Sec := List.replicate 512 0
theorem seB_zs : seB zs = nul 512 := by unfold seB zs nul; rw [List.map_replicate]; rfl
theorem seB_len (s : Sec) : (seB s).length = s.length := List.length_map ..
theorem seB_ones (s : Sec) : ones (seB s) = true := List.all_eq_true.2 fun u hu => by
 obtain ⟨c, _, rfl⟩ := List.mem_map.1 hu
 rfl
theorem loB_len (l : Loo) : (loB l).length = l.2.length + 1 := by unfold loB; rw [List.length_cons, seB_len]
theorem loB_ones (l : Loo) : ones (loB l) = true := by
 have := seB_ones l.2
 unfold ones at this ⊢
 unfold loB
 rw [List.all_cons, this]
 rfl
def newDk (n : Nat) : Dk := ⟨List.replicate n zs, [], -1, false⟩
theorem nul_len (m : Nat) : (nul m).length = m := List.length_replicate
theorem made_sec (k : Nat) : (madeCells (Value.agg (nul 512).toArray).cells (k * 512)).toList.take (k * 512) = (List.replicate k (nul 512)).flatten := by
 have := made_rows (nul 512) k k (Nat.le_refl _) (by rw [nul_len]; decide)
 rwa [nul_len] at this
theorem newOk {n : Nat} (h : 0 < n) (h2 : n ≤ 8192) : DkOk (newDk n) := by
 have e : (newDk n).kept.length = n := List.length_replicate
 refine ⟨fun s hs => ?_, fun l hl => ?_, by rw [e]; exact h, by rw [e]; exact h2, ⟨Int.le_refl _, (by decide : (-1 : Int) ≤ 9223372036854775807)⟩, Nat.zero_le _⟩
 ·rw [(List.mem_replicate.1 hs).2]; exact List.length_replicate
 ·cases hl
set_option maxHeartbeats 1000000 in
theorem New (h : Base) (n : Int) (hn1 : -9223372036854775808 ≤ n) (hn2 : n ≤ 9223372036854775807) : Tr Tryz.prog 21 [.int .i64 n] h [] (fun v h' H' => h' = h ∧ ((1 ≤ n ∧ n ≤ 8192 ∧ ∃ d M, v = .tuple #[dv d, .int .i64 0] ∧ H' = dkA d M (newDk n.toNat)) ∨ (¬ (1 ≤ n ∧ n ≤ 8192) ∧ v = .tuple #[.pointer none, .int .i64 1] ∧ H' = []))) := by
 refine K.enter Tryz.func21 rfl (Nat.le_of_ble_eq_true rfl) (fun F => ?_)
 by_cases hn : 1 ≤ n ∧ n ≤ 8192
 ·obtain ⟨k, rfl⟩ : ∃ k : Nat, n = (k : Int) := ⟨n.toNat, by omega⟩
  (repeat' first | refine X.rq ?_ | refine X.rc ?_ ?_ <;> intro hc <;> try omega)
  all_goals try (exfalso; omega)
  refine K.l_makeSlice (m := k) (c := k) (Fx.und rfl) (Fx.sz rfl) zrS rfl (Fx.byt rfl) rfl rfl (Nat.le_refl _) (by omega) (by unfold maxLen; omega) rfl (fun Bk => ?_)
  rw [made_sec]
  refine K.WL.nilBuf 114 513 ?_
  (repeat' first | refine X.rq ?_ | refine X.rc ?_ ?_ <;> intro hc <;> try omega)
  refine K.l_box rfl rfl rfl (fun d => ?_)
  (repeat' first | refine X.rq ?_ | refine X.rc ?_ ?_ <;> intro hc <;> try omega)
  refine K.AT.perm (K.pp [0, 1] rfl) ?_
  have e1 : (List.replicate k (nul 512)) = (newDk k).kept.map seB := by
   show _ = (List.replicate k zs).map seB
   rw [List.map_replicate, seB_zs]
  have e2 : (newDk k).kept.length = k := List.length_replicate
  refine K.done (by first | exact Or.inl rfl | exact Or.inr rfl) rfl (by first | exact K.Base.le.refl _ | assumption) (H' := [_, _, _]) rfl ⟨rfl, .inl ⟨by omega, by omega, d, ⟨Bk, none, 0, 0, 0, 0⟩, rfl, ?_⟩⟩
  rw [Int.toNat_natCast]
  unfold dkA dkV keptA cacheA
  rw [e2, ← e1]
  rfl
 ·(repeat' first | refine X.rq ?_ | refine X.rc ?_ ?_ <;> intro hc <;> try omega)
  all_goals try (exfalso; omega)
  all_goals refine K.done (by first | exact Or.inl rfl | exact Or.inr rfl) rfl (by first | exact K.Base.le.refl _ | assumption) (H' := []) rfl ⟨rfl, .inr ⟨hn, rfl, rfl⟩⟩
/-! ### Read -/
def viewQ (kept : List Sec) (cache : List Loo) (at_ : Nat) : Sec := cache.foldl (fun x l => if l.1 = at_ then l.2 else x) (kept.getD at_ [])
def readQ (D : Dk) (at_ : Int) : Except Int Sec × Dk := if at_ < 0 ∨ (D.kept.length : Int) ≤ at_ then (.error 2, D) else if (goesQ D).1 then (.ok (viewQ D.kept D.cache at_.toNat), (goesQ D).2) else (.error 8, (goesQ D).2)
def ReadR (h' : Base) (r : Except Int Sec) (v : Value) : Prop := match r with
 | .ok b => ∃ ao ca, v = .tuple #[.slice ao 512 ca, .int .i64 0] ∧ BV h' (.slice ao 512 ca) b
 | .error e => v = .tuple #[.slice none 0 0, .int .i64 e]
theorem view_snoc (kept : List Sec) (cache : List Loo) (l : Loo) (at_ : Nat) : viewQ kept (cache ++ [l]) at_ = if l.1 = at_ then l.2 else viewQ kept cache at_ := by
 unfold viewQ
 rw [List.foldl_append]
 rfl
theorem view_len {kept : List Sec} {at_ : Nat} (hk : ∀ s ∈ kept, s.length = 512) (ha : at_ < kept.length) : ∀ (cache : List Loo), (∀ l ∈ cache, l.2.length = 512) → (viewQ kept cache at_).length = 512 := by
 have h0 : (kept.getD at_ []).length = 512 := by
  rw [List.getD_eq_getElem?_getD, List.getElem?_eq_getElem ha]
  exact hk _ (List.getElem_mem ha)
 have key : ∀ (cache : List Loo) (x : Sec), x.length = 512 → (∀ l ∈ cache, l.2.length = 512) → (cache.foldl (fun x l => if l.1 = at_ then l.2 else x) x).length = 512 := by
  intro cache
  induction cache with
  | nil => intro x hx _; exact hx
  | cons l r ih =>
   intro x hx hc
   rw [List.foldl_cons]
   refine ih _ ?_ fun l hl => hc l (List.mem_cons_of_mem _ hl)
   split
   ·exact hc l (List.mem_cons_self ..)
   ·exact hx
 exact fun cache hc => key cache _ h0 hc
theorem lo_513 {D : Dk} (hk : DkOk D) : ∀ e ∈ D.cache.map loB, e.length = 513 := fun e he => by
 obtain ⟨l, hl, rfl⟩ := List.mem_map.1 he
 rw [loB_len, (hk.los l hl).2]
theorem se_512 {D : Dk} (hk : DkOk D) : ∀ e ∈ D.kept.map seB, e.length = 512 := fun e he => by
 obtain ⟨l, hl, rfl⟩ := List.mem_map.1 he
 rw [seB_len, hk.secs l hl]
set_option maxHeartbeats 2000000 in
theorem Read (h : Base) (d : Nat) (M : DM) (D : Dk) (at_ : Int) (hk : DkOk D) (ha1 : -9223372036854775808 ≤ at_) (ha2 : at_ ≤ 9223372036854775807) :
  Tr Tryz.prog 69 [dv d, .int .i64 at_] h (dkA d M D) (fun v h' H' => (∃ c, H' = dkA d { M with c1 := c } (readQ D at_).2) ∧ ReadR h' (readQ D at_).1 v) := by
 have hp := hk.pos
 have hf := hk.few
 have hgo := Goes h d M D hk
 have hse := Sectors h d M D
 refine K.enter Tryz.func69 rfl (Nat.le_of_ble_eq_true rfl) (fun F => ?_)
 by_cases hr : at_ < 0 ∨ (D.kept.length : Int) ≤ at_
 ·have er : readQ D at_ = (.error 2, D) := by unfold readQ; rw [if_pos hr]
  rw [er]
  by_cases h0 : at_ < 0
  ·(repeat' first | refine X.rq ?_ | refine X.rc ?_ ?_ <;> intro hc <;> try omega)
   all_goals try (exfalso; omega)
   exact K.done (vs := [.slice none 0 0, .int .i64 2]) (by first | exact Or.inl rfl | exact Or.inr rfl) rfl (K.Base.le.refl _) (H' := dkA d M D) rfl ⟨⟨M.c1, rfl⟩, rfl⟩
  ·(repeat' first | refine X.rq ?_ | refine X.rc ?_ ?_ <;> intro hc <;> try omega)
   all_goals try (exfalso; omega)
   refine K.l_callV (Fx.cal rfl) rfl hse (K.pp [0, 0, 0] rfl) rfl rfl ?_
   (repeat' first | refine X.rq ?_ | refine X.rc ?_ ?_ <;> intro hc <;> try omega)
   all_goals try (exfalso; omega)
   exact K.done (vs := [.slice none 0 0, .int .i64 2]) (by first | exact Or.inl rfl | exact Or.inr rfl) rfl (K.Base.le.refl _) (H' := dkA d M D) rfl ⟨⟨M.c1, rfl⟩, rfl⟩
 obtain ⟨a, rfl⟩ : ∃ a : Nat, at_ = (a : Int) := ⟨at_.toNat, by omega⟩
 have hal : a < D.kept.length := by omega
 (repeat' first | refine X.rq ?_ | refine X.rc ?_ ?_ <;> intro hc <;> try omega)
 all_goals try (exfalso; omega)
 refine K.l_callV (Fx.cal rfl) rfl hse (K.pp [0, 0, 0] rfl) rfl rfl ?_
 (repeat' first | refine X.rq ?_ | refine X.rc ?_ ?_ <;> intro hc <;> try omega)
 all_goals try (exfalso; omega)
 refine K.l_call (Fx.cal rfl) rfl hgo (K.pp [0, 0, 0] rfl) rfl ?_
 rintro u h1 H' - ⟨e, rfl, rfl⟩
 obtain rfl := e.symm
 have hk1 := hk.goes
 obtain ⟨ek, ec⟩ := goes_kept D
 cases hg : (goesQ D).1 with
 | false =>
  have er : readQ D (a : Int) = (.error 8, (goesQ D).2) := by unfold readQ; rw [if_neg hr, hg]; rfl
  rw [er]
  (repeat' first | refine X.rq ?_ | refine X.rc ?_ ?_ <;> intro hc <;> try omega)
  exact K.done (vs := [.slice none 0 0, .int .i64 8]) (by first | exact Or.inl rfl | exact Or.inr rfl) rfl (K.Base.le.refl _) (H' := dkA d M (goesQ D).2) rfl ⟨⟨M.c1, rfl⟩, rfl⟩
 | true =>
  have er : readQ D (a : Int) = (.ok (viewQ D.kept D.cache a), (goesQ D).2) := by unfold readQ; rw [if_neg hr, hg, Int.toNat_natCast]; rfl
  rw [er, ← ek, ← ec]
  rw [← ek] at hal
  clear hgo hse hp hf hr er ek ec hk hg
  generalize (goesQ D).2 = D1 at *
  have hlo := lo_513 hk1
  have hsz := se_512 hk1
  have hroom := hk1.room
  have hf := hk1.few
  have hvl := view_len hk1.secs hal
  have hlos := hk1.los
  obtain ⟨kept, cache, trip, dark⟩ := D1
  obtain ⟨bk, ac, cap, c1, c2, c3⟩ := M
  dsimp only at hal hlo hsz hroom hf hvl hlos ⊢
  unfold dkA dkV keptA cacheA
  simp only [List.cons_append, List.nil_append]
  (repeat' first | refine X.rq ?_ | refine X.rc ?_ ?_ <;> intro hc <;> try omega)
  refine X.sto ?_
  simp only [Go.K.nmz]
  (repeat' first | refine X.rq ?_ | refine X.rc ?_ ?_ <;> intro hc <;> try omega)
  obtain ⟨s0, hs0⟩ : ∃ s0, kept[a]? = some s0 := ⟨_, List.getElem?_eq_getElem hal⟩
  have hsa : (kept.map seB)[a]? = some (seB s0) := by rw [List.getElem?_map, hs0]; rfl
  have hs5 : (seB s0).length = 512 := hsz _ (List.mem_of_getElem? hsa)
  have hv0 : viewQ kept [] a = s0 := by unfold viewQ; rw [List.foldl_nil, List.getD_eq_getElem?_getD, hs0]; rfl
  rw [show 0 + (a : Int).toNat * 512 = a * 512 by omega]
  refine K.s_pure (K.p_loadM (Fx.agg rfl) rfl (K.cels_rowZ 1 rfl hsz hsa) (Fx.sz rfl) hs5) rfl ?_
  refine K.l_alloc zrS rfl rfl (fun B6 => ?_)
  refine K.l_storeW_at 0 rfl (by rw [hs5]; exact (Fx.sz rfl)) rfl rfl (seB_ones _) (by rw [hs5, nul_len]) rfl ?_
  simp only [Go.K.nmz]
  (repeat' first | refine X.rq ?_ | refine X.rc ?_ ?_ <;> intro hc <;> try omega)
  refine K.c_loop (σ := Nat) (fun j => [(0, dv d), (1, .int .i64 a), (6, .pointer (some ⟨B6, 0, none⟩)), (41, bufV ac cache.length cap), (42, .int .i64 cache.length), (43, .int .i64 j)]) (fun _ => h)
   (fun j => blk B6 112 (seB (viewQ kept (cache.take j) a)) :: blk d 109 [bufV (some bk) kept.length kept.length, bufV ac cache.length cap, .int .i64 trip, .bool dark, .int .i64 (IntKind.i64.wrap (c1 + 1)), .int .i64 c2, .int .i64 c3] :: bufA 112 512 (some bk) kept.length kept.length (kept.map seB).flatten :: bufA 114 513 ac cache.length cap (cache.map loB).flatten :: F)
   (fun j => j ≤ cache.length) (fun j => cache.length - j) 0 (Nat.zero_le _) (by repeat (first | exact K.Sub.nil _ | refine K.Sub.cons rfl ?_)) rfl (by rw [List.take_zero, hv0]) ?_
  rintro j hj KL hKL
  have hvj : (viewQ kept (cache.take j) a).length = 512 := hvl _ fun l hl => (hlos l (List.mem_of_mem_take hl)).2
  have hvj5 : (seB (viewQ kept (cache.take j) a)).length = 512 := by rw [seB_len, hvj]
  by_cases hjl : j < cache.length
  ·refine K.WC.someBuf 3 rfl (by omega) (fun b hb' => ?_)
   subst hb'
   obtain ⟨l, hl⟩ : ∃ l, cache[j]? = some l := ⟨_, List.getElem?_eq_getElem hjl⟩
   have hla : (cache.map loB)[j]? = some (loB l) := by rw [List.getElem?_map, hl]; rfl
   have hl5 : (loB l).length = 513 := hlo _ (List.mem_of_getElem? hla)
   have hl2 := (hlos l (List.mem_of_getElem? hl)).2
   have hview : viewQ kept (cache.take (j + 1)) a = if l.1 = a then l.2 else viewQ kept (cache.take j) a := by
    rw [List.take_add_one, hl]; exact view_snoc _ _ _ _
   (repeat' first | refine X.rq ?_ | refine X.rc ?_ ?_ <;> intro hc <;> try omega)
   rw [show 0 + (j : Int).toNat * 513 = j * 513 by omega]
   refine K.s_pure (K.p_loadM (Fx.agg rfl) rfl (K.cels_rowZ 3 rfl hlo hla) (Fx.sz rfl) hl5) rfl ?_
   refine K.l_alloc zrL rfl rfl (fun B8 => ?_)
   refine K.l_storeW_at 0 rfl (by rw [hl5]; exact (Fx.sz rfl)) rfl rfl (loB_ones _) (by rw [hl5, List.length_cons, nul_len]) rfl ?_
   simp only [Go.K.nmz]
   by_cases hla1 : l.1 = a
   ·rw [if_pos hla1] at hview
    (repeat' first | refine X.rq ?_ | refine X.rc ?_ ?_ <;> intro hc <;> try omega)
    all_goals try (exfalso; omega)
    refine K.s_pure (K.p_loadM (vs := seB l.2) (Fx.agg rfl) rfl (K.cels_own (pre := []) (cs := loB l) (post := []) 0 (by rw [List.nil_append, List.append_nil]; rfl) rfl).2 (Fx.sz rfl) (by rw [seB_len, hl2])) rfl ?_
    refine K.l_storeW_at 1 rfl (by rw [seB_len, hl2]; exact (Fx.sz rfl)) rfl rfl (seB_ones _) (by rw [hvj5, seB_len, hl2]) rfl ?_
    simp only [Go.K.nmz]
    (repeat' first | refine X.rq ?_ | refine X.rc ?_ ?_ <;> intro hc <;> try omega)
    refine K.AT.drop ?_
    refine K.a_round hKL (j + 1) (by omega) (by repeat (first | exact K.Sub.nil _ | refine K.Sub.cons rfl ?_)) rfl (by rw [hview]) (by omega)
   ·rw [if_neg hla1] at hview
    (repeat' first | refine X.rq ?_ | refine X.rc ?_ ?_ <;> intro hc <;> try omega)
    all_goals try (exfalso; omega)
    refine K.AT.drop ?_
    refine K.a_round hKL (j + 1) (by omega) (by repeat (first | exact K.Sub.nil _ | refine K.Sub.cons rfl ?_)) rfl (by rw [hview]) (by omega)
  ·obtain rfl : j = cache.length := by omega
   rw [List.take_length] at hvj ⊢
   (repeat' first | refine X.rq ?_ | refine X.rc ?_ ?_ <;> intro hc <;> try omega)
   refine K.s_pure (K.p_sliceAll (Fx.und rfl) (Fx.sz rfl) rfl) rfl ?_
   refine K.WL.bufOf (m := 512) (s := 1) (by rw [seB_len, hvj]) (by unfold maxLen; omega) ?_
   refine K.WL.freezeBufN (l := viewQ kept cache a) hvj.symm (fun h2 le2 hbv => ?_)
   (repeat' first | refine X.rq ?_ | refine X.rc ?_ ?_ <;> intro hc <;> try omega)
   exact K.done (vs := [.slice (some ⟨B6, 0, none⟩) 512 512, .int .i64 0]) (by first | exact Or.inl rfl | exact Or.inr rfl) rfl le2 (H' := [_, _, _]) rfl ⟨⟨IntKind.i64.wrap (c1 + 1), rfl⟩, _, _, rfl, hbv⟩
end Go.Proofs.YtmcdaegaopfihaaGreat.Wl
