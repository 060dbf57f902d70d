/-
  Texts joined: Sb Sc. Conditions: each theorem's own.
-/
import Derived.Test.YtijbhgiigddjdaaGreatPC11
set_option linter.unusedVariables false
set_option linter.unusedSimpArgs false
set_option maxRecDepth 10000
set_option maxHeartbeats 16000000
section
namespace Go.Proofs.YtijbhgiigddjdaaGreat.Wl
open Go.K

theorem rep_flat (zs : List Value) : ∀ (m i : Nat), i < m * zs.length → (List.replicate m zs).flatten[i]? = zs[i % zs.length]?
 | 0, i, hi => by simp at hi
 | m + 1, i, hi => by
  rw [List.replicate_succ, List.flatten_cons]
  by_cases h : i < zs.length
  ·rw [List.getElem?_append_left h, Nat.mod_eq_of_lt h]
  ·rw [List.getElem?_append_right (by omega), rep_flat zs m (i - zs.length) (by rw [Nat.add_mul] at hi; omega)]
   congr 1
   rw [← Nat.mod_eq_sub_mod (by omega)]
theorem made_rows (zs : List Value) (m c : Nat) (hm : m ≤ c) (hz : 0 < zs.length) : (madeCells zs.toArray (c * zs.length)).toList.take (m * zs.length) = (List.replicate m zs).flatten := by
 have hmc : m * zs.length ≤ c * zs.length := Nat.mul_le_mul_right _ hm
 have hfl : (List.replicate m zs).flatten.length = m * zs.length := by rw [K.flatten_len (s := zs.length) _ fun e he => by rw [List.eq_of_mem_replicate he], List.length_replicate]
 refine List.ext_getElem? fun i => ?_
 by_cases hi : i < m * zs.length
 ·rw [List.getElem?_take, if_pos hi, rep_flat zs m i hi]
  simp only [madeCells, List.size_toArray, Array.toList_map, Array.toList_range, List.getElem?_map]
  rw [List.getElem?_range (by omega)]
  have hlt := Nat.mod_lt i hz
  simp [hlt]
 ·have hml : (madeCells zs.toArray (c * zs.length)).toList.length = c * zs.length := (Array.length_toList ..).trans (size_madeCells _ _)
  rw [List.getElem?_eq_none (by rw [List.length_take, hml]; omega), List.getElem?_eq_none (by omega)]

def zs : Sec := List.replicate 512 0
theorem seB_zs : seB zs = nul 512 := by unfold seB zs nul; rw [List.map_replicate]; rfl
theorem seB_len (s : Sec) : (seB s).length = s.length := List.length_map ..
theorem seB_ones (s : Sec) : ones (seB s) = true := List.all_eq_true.2 fun u hu => by
 obtain ⟨c, _, rfl⟩ := List.mem_map.1 hu
 rfl
theorem loB_len (l : Loo) : (loB l).length = l.2.length + 1 := by unfold loB; rw [List.length_cons, seB_len]
theorem loB_ones (l : Loo) : ones (loB l) = true := by
 have := seB_ones l.2
 unfold ones at this ⊢
 unfold loB
 rw [List.all_cons, this]
 rfl
def newDk (n : Nat) : Dk := ⟨List.replicate n zs, [], -1, false⟩
theorem nul_len (m : Nat) : (nul m).length = m := List.length_replicate
theorem made_sec (k : Nat) : (madeCells (Value.agg (nul 512).toArray).cells (k * 512)).toList.take (k * 512) = (List.replicate k (nul 512)).flatten := by
 have := made_rows (nul 512) k k (Nat.le_refl _) (by rw [nul_len]; decide)
 rwa [nul_len] at this
theorem newOk {n : Nat} (h : 0 < n) (h2 : n ≤ 8192) : DkOk (newDk n) := by
 have e : (newDk n).kept.length = n := List.length_replicate
 refine ⟨fun s hs => ?_, fun l hl => ?_, by rw [e]; exact h, by rw [e]; exact h2, ⟨Int.le_refl _, (by decide : (-1 : Int) ≤ 9223372036854775807)⟩, Nat.zero_le _⟩
 ·rw [(List.mem_replicate.1 hs).2]; exact List.length_replicate
 ·cases hl
theorem New (h : Base) (n : Int) (hn1 : -9223372036854775808 ≤ n) (hn2 : n ≤ 9223372036854775807) : Tr Tryz.prog 19 [.int .i64 n] h [] (fun v h' H' => h' = h ∧ ((1 ≤ n ∧ n ≤ 8192 ∧ ∃ d M, v = .tuple #[dv d, .int .i64 0] ∧ H' = dkA d M (newDk n.toNat)) ∨ (¬ (1 ≤ n ∧ n ≤ 8192) ∧ v = .tuple #[.pointer none, .int .i64 1] ∧ H' = []))) := by
 refine K.en Tryz.func19 fun F => ?_
 by_cases hn : 1 ≤ n ∧ n ≤ 8192
 ·obtain ⟨k, rfl⟩ : ∃ k : Nat, n = (k : Int) := ⟨n.toNat, by omega⟩
  (repeat' first | refine X.rq ?_ | refine X.rc ?_ ?_ <;> intro hc <;> try omega)
  all_goals try (exfalso; omega)
  refine K.l_makeSlice (m := k) (c := k) (Fx.und rfl) (Fx.sz rfl) zrS rfl (Fx.byt rfl) rfl rfl (Nat.le_refl _) (by omega) (by unfold maxLen; omega) rfl (fun Bk => ?_)
  rw [made_sec]
  refine K.WL.nilBuf 101 513 ?_
  (repeat' first | refine X.rq ?_ | refine X.rc ?_ ?_ <;> intro hc <;> try omega)
  refine K.l_box rfl rfl rfl (fun d => ?_)
  (repeat' first | refine X.rq ?_ | refine X.rc ?_ ?_ <;> intro hc <;> try omega)
  refine K.AT.perm (K.pp [0, 1] rfl) ?_
  have e1 : (List.replicate k (nul 512)) = (newDk k).kept.map seB := by
   show _ = (List.replicate k zs).map seB
   rw [List.map_replicate, seB_zs]
  have e2 : (newDk k).kept.length = k := List.length_replicate
  refine K.dl rfl (H' := [_, _, _]) rfl ⟨rfl, .inl ⟨by omega, by omega, d, ⟨Bk, none, 0, 0, 0, 0⟩, rfl, ?_⟩⟩
  rw [Int.toNat_natCast]
  unfold dkA dkV keptA cacheA
  rw [e2, ← e1]
  rfl
 ·(repeat' first | refine X.rq ?_ | refine X.rc ?_ ?_ <;> intro hc <;> try omega)
  all_goals try (exfalso; omega)
  all_goals refine K.dl rfl (H' := []) rfl ⟨rfl, .inr ⟨hn, rfl, rfl⟩⟩
/-! ### Read -/
def viewQ (kept : List Sec) (cache : List Loo) (at_ : Nat) : Sec := cache.foldl (fun x l => if l.1 = at_ then l.2 else x) (kept.getD at_ [])
def readQ (D : Dk) (at_ : Int) : Except Int Sec × Dk := if at_ < 0 ∨ (D.kept.length : Int) ≤ at_ then (.error 2, D) else if (goesQ D).1 then (.ok (viewQ D.kept D.cache at_.toNat), (goesQ D).2) else (.error 8, (goesQ D).2)
def ReadR (h' : Base) (r : Except Int Sec) (v : Value) : Prop := match r with
 | .ok b => ∃ ao ca, v = .tuple #[.slice ao 512 ca, .int .i64 0] ∧ BV h' (.slice ao 512 ca) b
 | .error e => v = .tuple #[.slice none 0 0, .int .i64 e]
theorem view_snoc (kept : List Sec) (cache : List Loo) (l : Loo) (at_ : Nat) : viewQ kept (cache ++ [l]) at_ = if l.1 = at_ then l.2 else viewQ kept cache at_ := by
 unfold viewQ
 rw [List.foldl_append]
 rfl
theorem view_len {kept : List Sec} {at_ : Nat} (hk : ∀ s ∈ kept, s.length = 512) (ha : at_ < kept.length) : ∀ (cache : List Loo), (∀ l ∈ cache, l.2.length = 512) → (viewQ kept cache at_).length = 512 := by
 have h0 : (kept.getD at_ []).length = 512 := by
  rw [List.getD_eq_getElem?_getD, List.getElem?_eq_getElem ha]
  exact hk _ (List.getElem_mem ha)
 have key : ∀ (cache : List Loo) (x : Sec), x.length = 512 → (∀ l ∈ cache, l.2.length = 512) → (cache.foldl (fun x l => if l.1 = at_ then l.2 else x) x).length = 512 := by
  intro cache
  induction cache with
  | nil => intro x hx _; exact hx
  | cons l r ih =>
   intro x hx hc
   rw [List.foldl_cons]
   refine ih _ ?_ fun l hl => hc l (List.mem_cons_of_mem _ hl)
   split
   ·exact hc l (List.mem_cons_self ..)
   ·exact hx
 exact fun cache hc => key cache _ h0 hc
theorem lo_513 {D : Dk} (hk : DkOk D) : ∀ e ∈ D.cache.map loB, e.length = 513 := fun e he => by
 obtain ⟨l, hl, rfl⟩ := List.mem_map.1 he
 rw [loB_len, (hk.los l hl).2]
theorem se_512 {D : Dk} (hk : DkOk D) : ∀ e ∈ D.kept.map seB, e.length = 512 := fun e he => by
 obtain ⟨l, hl, rfl⟩ := List.mem_map.1 he
 rw [seB_len, hk.secs l hl]
def readC (M : DM) (r : Except Int Sec) : DM := match r with
 | .ok _ => { M with c1 := IntKind.i64.wrap (M.c1 + 1) }
 | .error _ => M
theorem Read1 (h : Base) (d : Nat) (M : DM) (D : Dk) (at_ : Int) (hk : DkOk D) (ha1 : -9223372036854775808 ≤ at_) (ha2 : at_ ≤ 9223372036854775807) :
  Tr Tryz.prog 36 [dv d, .int .i64 at_] h (dkA d M D) (fun v h' H' => H' = dkA d (readC M (readQ D at_).1) (readQ D at_).2 ∧ ReadR h' (readQ D at_).1 v) := by
 have hp := hk.pos
 have hf := hk.few
 have hgo := Goes h d M D hk
 have hse := Sectors h d M D
 refine K.en Tryz.func36 fun F => ?_
 by_cases hr : at_ < 0 ∨ (D.kept.length : Int) ≤ at_
 ·have er : readQ D at_ = (.error 2, D) := by unfold readQ; rw [if_pos hr]
  rw [er]
  by_cases h0 : at_ < 0
  ·(repeat' first | refine X.rq ?_ | refine X.rc ?_ ?_ <;> intro hc <;> try omega)
   all_goals try (exfalso; omega)
   exact K.dn (vs := [.slice none 0 0, .int .i64 2]) rfl (K.Base.le.refl _) (H' := dkA d M D) rfl ⟨rfl, rfl⟩
  ·(repeat' first | refine X.rq ?_ | refine X.rc ?_ ?_ <;> intro hc <;> try omega)
   all_goals try (exfalso; omega)
   refine K.l_callV (Fx.cal rfl) rfl hse (K.pp [0, 0, 0] rfl) rfl rfl ?_
   (repeat' first | refine X.rq ?_ | refine X.rc ?_ ?_ <;> intro hc <;> try omega)
   all_goals try (exfalso; omega)
   exact K.dn (vs := [.slice none 0 0, .int .i64 2]) rfl (K.Base.le.refl _) (H' := dkA d M D) rfl ⟨rfl, rfl⟩
 obtain ⟨a, rfl⟩ : ∃ a : Nat, at_ = (a : Int) := ⟨at_.toNat, by omega⟩
 have hal : a < D.kept.length := by omega
 (repeat' first | refine X.rq ?_ | refine X.rc ?_ ?_ <;> intro hc <;> try omega)
 all_goals try (exfalso; omega)
 refine K.l_callV (Fx.cal rfl) rfl hse (K.pp [0, 0, 0] rfl) rfl rfl ?_
 (repeat' first | refine X.rq ?_ | refine X.rc ?_ ?_ <;> intro hc <;> try omega)
 all_goals try (exfalso; omega)
 refine K.l_call (Fx.cal rfl) rfl hgo (K.pp [0, 0, 0] rfl) rfl ?_
 rintro u h1 H' - ⟨e, rfl, rfl⟩
 obtain rfl := e.symm
 have hk1 := hk.goes
 obtain ⟨ek, ec⟩ := goes_kept D
 cases hg : (goesQ D).1 with
 | false =>
  have er : readQ D (a : Int) = (.error 8, (goesQ D).2) := by unfold readQ; rw [if_neg hr, hg]; rfl
  rw [er]
  (repeat' first | refine X.rq ?_ | refine X.rc ?_ ?_ <;> intro hc <;> try omega)
  exact K.dn (vs := [.slice none 0 0, .int .i64 8]) rfl (K.Base.le.refl _) (H' := dkA d M (goesQ D).2) rfl ⟨rfl, rfl⟩
 | true =>
  have er : readQ D (a : Int) = (.ok (viewQ D.kept D.cache a), (goesQ D).2) := by unfold readQ; rw [if_neg hr, hg, Int.toNat_natCast]; rfl
  rw [er, ← ek, ← ec]
  rw [← ek] at hal
  clear hgo hse hp hf hr er ek ec hk hg
  generalize (goesQ D).2 = D1 at *
  have hlo := lo_513 hk1
  have hsz := se_512 hk1
  have hroom := hk1.room
  have hf := hk1.few
  have hvl := view_len hk1.secs hal
  have hlos := hk1.los
  obtain ⟨kept, cache, trip, dark⟩ := D1
  obtain ⟨bk, ac, cap, c1, c2, c3⟩ := M
  dsimp only at hal hlo hsz hroom hf hvl hlos ⊢
  unfold dkA dkV keptA cacheA
  simp only [Go.K.cna]
  (repeat' first | refine X.rq ?_ | refine X.rc ?_ ?_ <;> intro hc <;> try omega)
  refine X.sto ?_
  simp only [Go.K.nmz]
  (repeat' first | refine X.rq ?_ | refine X.rc ?_ ?_ <;> intro hc <;> try omega)
  obtain ⟨s0, hs0⟩ : ∃ s0, kept[a]? = some s0 := ⟨_, List.getElem?_eq_getElem hal⟩
  have hsa : (kept.map seB)[a]? = some (seB s0) := by rw [List.getElem?_map, hs0]; rfl
  have hs5 : (seB s0).length = 512 := hsz _ (List.mem_of_getElem? hsa)
  have hv0 : viewQ kept [] a = s0 := by unfold viewQ; rw [List.foldl_nil, List.getD_eq_getElem?_getD, hs0]; rfl
  rw [show 0 + (a : Int).toNat * 512 = a * 512 by omega]
  refine K.s_pure (K.p_loadM (Fx.agg rfl) rfl (K.cels_rowZ 1 rfl hsz hsa) (Fx.sz rfl) hs5) rfl ?_
  refine K.l_alloc zrS rfl rfl (fun B6 => ?_)
  refine K.l_storeW_at 0 rfl (by rw [hs5]; exact (Fx.sz rfl)) rfl rfl (seB_ones _) (by rw [hs5, nul_len]) rfl ?_
  simp only [Go.K.nmz]
  (repeat' first | refine X.rq ?_ | refine X.rc ?_ ?_ <;> intro hc <;> try omega)
  refine K.c_loop (σ := Nat) (fun j => [(0, dv d), (1, .int .i64 a), (6, .pointer (some ⟨B6, 0, none⟩)), (41, bufV ac cache.length cap), (42, .int .i64 cache.length), (43, .int .i64 j)]) (fun _ => h)
   (fun j => blk B6 99 (seB (viewQ kept (cache.take j) a)) :: blk d 98 [bufV (some bk) kept.length kept.length, bufV ac cache.length cap, .int .i64 trip, .bool dark, .int .i64 (IntKind.i64.wrap (c1 + 1)), .int .i64 c2, .int .i64 c3] :: bufA 99 512 (some bk) kept.length kept.length (kept.map seB).flatten :: bufA 101 513 ac cache.length cap (cache.map loB).flatten :: F)
   (fun j => j ≤ cache.length) (fun j => cache.length - j) 0 (Nat.zero_le _) (by repeat (first | exact K.Sub.nil _ | refine K.Sub.cons rfl ?_)) rfl (by rw [List.take_zero, hv0]) ?_
  rintro j hj KL hKL
  have hvj : (viewQ kept (cache.take j) a).length = 512 := hvl _ fun l hl => (hlos l (List.mem_of_mem_take hl)).2
  have hvj5 : (seB (viewQ kept (cache.take j) a)).length = 512 := by rw [seB_len, hvj]
  by_cases hjl : j < cache.length
  ·refine K.WC.someBuf 3 rfl (by omega) (fun b hb' => ?_)
   subst hb'
   obtain ⟨l, hl⟩ : ∃ l, cache[j]? = some l := ⟨_, List.getElem?_eq_getElem hjl⟩
   have hla : (cache.map loB)[j]? = some (loB l) := by rw [List.getElem?_map, hl]; rfl
   have hl5 : (loB l).length = 513 := hlo _ (List.mem_of_getElem? hla)
   have hl2 := (hlos l (List.mem_of_getElem? hl)).2
   have hview : viewQ kept (cache.take (j + 1)) a = if l.1 = a then l.2 else viewQ kept (cache.take j) a := by
    rw [List.take_add_one, hl]; exact view_snoc _ _ _ _
   (repeat' first | refine X.rq ?_ | refine X.rc ?_ ?_ <;> intro hc <;> try omega)
   rw [show 0 + (j : Int).toNat * 513 = j * 513 by omega]
   refine K.s_pure (K.p_loadM (Fx.agg rfl) rfl (K.cels_rowZ 3 rfl hlo hla) (Fx.sz rfl) hl5) rfl ?_
   refine K.l_alloc zrL rfl rfl (fun B8 => ?_)
   refine K.l_storeW_at 0 rfl (by rw [hl5]; exact (Fx.sz rfl)) rfl rfl (loB_ones _) (by rw [hl5, List.length_cons, nul_len]) rfl ?_
   simp only [Go.K.nmz]
   by_cases hla1 : l.1 = a
   ·rw [if_pos hla1] at hview
    (repeat' first | refine X.rq ?_ | refine X.rc ?_ ?_ <;> intro hc <;> try omega)
    all_goals try (exfalso; omega)
    refine K.s_pure (K.p_loadM (vs := seB l.2) (Fx.agg rfl) rfl (K.cels_own (pre := []) (cs := loB l) (post := []) 0 (by rw [List.nil_append, List.append_nil]; rfl) rfl).2 (Fx.sz rfl) (by rw [seB_len, hl2])) rfl ?_
    refine K.l_storeW_at 1 rfl (by rw [seB_len, hl2]; exact (Fx.sz rfl)) rfl rfl (seB_ones _) (by rw [hvj5, seB_len, hl2]) rfl ?_
    simp only [Go.K.nmz]
    (repeat' first | refine X.rq ?_ | refine X.rc ?_ ?_ <;> intro hc <;> try omega)
    refine K.AT.drop ?_
    refine K.a_round hKL (j + 1) (by omega) (by repeat (first | exact K.Sub.nil _ | refine K.Sub.cons rfl ?_)) rfl (by rw [hview]) (by omega)
   ·rw [if_neg hla1] at hview
    (repeat' first | refine X.rq ?_ | refine X.rc ?_ ?_ <;> intro hc <;> try omega)
    all_goals try (exfalso; omega)
    refine K.AT.drop ?_
    refine K.a_round hKL (j + 1) (by omega) (by repeat (first | exact K.Sub.nil _ | refine K.Sub.cons rfl ?_)) rfl (by rw [hview]) (by omega)
  ·obtain rfl : j = cache.length := by omega
   rw [List.take_length] at hvj ⊢
   (repeat' first | refine X.rq ?_ | refine X.rc ?_ ?_ <;> intro hc <;> try omega)
   refine K.s_pure (K.p_sliceAll (Fx.und rfl) (Fx.sz rfl) rfl) rfl ?_
   refine K.WL.bufOf (m := 512) (s := 1) (by rw [seB_len, hvj]) (by unfold maxLen; omega) ?_
   refine K.WL.freezeBufN (l := viewQ kept cache a) hvj.symm (fun h2 le2 hbv => ?_)
   (repeat' first | refine X.rq ?_ | refine X.rc ?_ ?_ <;> intro hc <;> try omega)
   exact K.dn (vs := [.slice (some ⟨B6, 0, none⟩) 512 512, .int .i64 0]) rfl le2 (H' := [_, _, _]) rfl ⟨rfl, _, _, rfl, hbv⟩
theorem Read (h : Base) (d : Nat) (M : DM) (D : Dk) (at_ : Int) (hk : DkOk D) (ha1 : -9223372036854775808 ≤ at_) (ha2 : at_ ≤ 9223372036854775807) :
  Tr Tryz.prog 36 [dv d, .int .i64 at_] h (dkA d M D) (fun v h' H' => (∃ c, H' = dkA d { M with c1 := c } (readQ D at_).2) ∧ ReadR h' (readQ D at_).1 v) :=
 fun F w ok => Calls.mono (Read1 h d M D at_ hk ha1 ha2 F w ok) fun e w' ⟨u, he, h1, H1, hle, q, ok1⟩ => ⟨u, he, h1, H1, hle, ⟨by
  cases hr : (readQ D at_).1 with
  | ok b => exact ⟨_, by rw [q.1, hr]; rfl⟩
  | error e => exact ⟨M.c1, by rw [q.1, hr]; rfl⟩, q.2⟩, ok1⟩
end Go.Proofs.YtijbhgiigddjdaaGreat.Wl
end

section
namespace Go.Proofs.YtijbhgiigddjdaaGreat.Wl
open Go.K

/-! ### Write -/
def writeQ (D : Dk) (at_ : Int) (b : Sec) : Int × Dk := if at_ < 0 ∨ (D.kept.length : Int) ≤ at_ then (2, D) else if b.length ≠ 512 then (1, D) else if (goesQ D).1 then (0, { (goesQ D).2 with cache := D.cache ++ [(at_.toNat, b)] }) else (8, (goesQ D).2)
theorem build_lo (l : Loo) (h : l.2.length = 512) : fillL [(0, 1), (1, 512)] (.int .i64 0 :: nul 512) [(0, .int .i64 l.1), (1, .agg (seB l.2).toArray)] = some (loB l) := by
 have h5 : (seB l.2).length = 512 := by rw [seB_len, h]
 have e1 : (Value.agg (seB l.2).toArray).cells.toList = seB l.2 := rfl
 have e2 : (Value.int .i64 (l.1 : Int)).cells.toList = [Value.int .i64 (l.1 : Int)] := rfl
 have e3 : overL (.int .i64 0 :: nul 512) 0 [.int .i64 (l.1 : Int)] = .int .i64 (l.1 : Int) :: nul 512 := rfl
 have e4 : overL (.int .i64 (l.1 : Int) :: nul 512) 1 (seB l.2) = loB l := by
  unfold overL
  rw [h5, List.drop_of_length_le (by rw [List.length_cons, nul_len]; omega), List.append_nil]
  rfl
 simp only [fillL, List.getElem?_cons_zero, List.getElem?_cons_succ, e1, e2, e3, h5, List.length_cons, nul_len, e4]
 rfl
theorem BV.cels {h : Base} {ao : Option Addr} {n c : Nat} {l : List UInt8} (hb : BV h (.slice ao n c) l) (h0 : 0 < l.length) : n = l.length ∧ ∃ b o, ao = some ⟨b, o, none⟩ ∧ Cels h [] b o (l.map u8) := by
 rcases hb with ⟨_, _, _, rfl⟩ | ⟨b, o, c', e, _, hc⟩
 ·cases h0
 ·cases e; exact ⟨rfl, b, o, rfl, hc⟩
theorem Write (h : Base) (d : Nat) (M : DM) (D : Dk) (at_ : Int) (v : Value) (b : Sec) (hk : DkOk D) (ha1 : -9223372036854775808 ≤ at_) (ha2 : at_ ≤ 9223372036854775807) (hb : BV h v b) (hbl : b.length ≤ 9223372036854775807) :
  Tr Tryz.prog 9 [dv d, .int .i64 at_, v] h (dkA d M D) (fun u h' H' => u = .int .i64 (writeQ D at_ b).1 ∧ ∃ ac cap c, H' = dkA d { M with ac := ac, cap := cap, c2 := c } (writeQ D at_ b).2) := by
 have hp := hk.pos
 have hf := hk.few
 have hgo := Goes h d M D hk
 have hse := Sectors h d M D
 have hb0 := hb
 obtain ⟨ao, ca, rfl⟩ := hb.len
 refine K.en Tryz.func9 fun F => ?_
 by_cases hr : at_ < 0 ∨ (D.kept.length : Int) ≤ at_
 ·have er : writeQ D at_ b = (2, D) := by unfold writeQ; rw [if_pos hr]
  rw [er]
  by_cases h0 : at_ < 0
  ·(repeat' first | refine X.rq ?_ | refine X.rc ?_ ?_ <;> intro hc <;> try omega)
   all_goals try (exfalso; omega)
   exact K.dn (vs := [.int .i64 2]) rfl (K.Base.le.refl _) (H' := dkA d M D) rfl ⟨rfl, M.ac, M.cap, M.c2, rfl⟩
  ·(repeat' first | refine X.rq ?_ | refine X.rc ?_ ?_ <;> intro hc <;> try omega)
   all_goals try (exfalso; omega)
   refine K.l_callV (Fx.cal rfl) rfl hse (K.pp [0, 0, 0] rfl) rfl rfl ?_
   (repeat' first | refine X.rq ?_ | refine X.rc ?_ ?_ <;> intro hc <;> try omega)
   all_goals try (exfalso; omega)
   exact K.dn (vs := [.int .i64 2]) rfl (K.Base.le.refl _) (H' := dkA d M D) rfl ⟨rfl, M.ac, M.cap, M.c2, rfl⟩
 obtain ⟨a, rfl⟩ : ∃ a : Nat, at_ = (a : Int) := ⟨at_.toNat, by omega⟩
 have hal : a < D.kept.length := by omega
 (repeat' first | refine X.rq ?_ | refine X.rc ?_ ?_ <;> intro hc <;> try omega)
 all_goals try (exfalso; omega)
 refine K.l_callV (Fx.cal rfl) rfl hse (K.pp [0, 0, 0] rfl) rfl rfl ?_
 by_cases hb5 : b.length = 512
 rotate_left
 ·have er : writeQ D (a : Int) b = (1, D) := by unfold writeQ; rw [if_neg hr, if_pos hb5]
  rw [er]
  (repeat' first | refine X.rq ?_ | refine X.rc ?_ ?_ <;> intro hc <;> try omega)
  all_goals try (exfalso; omega)
  exact K.dn (vs := [.int .i64 1]) rfl (K.Base.le.refl _) (H' := dkA d M D) rfl ⟨rfl, M.ac, M.cap, M.c2, rfl⟩
 (repeat' first | refine X.rq ?_ | refine X.rc ?_ ?_ <;> intro hc <;> try omega)
 all_goals try (exfalso; omega)
 refine K.l_call (Fx.cal rfl) rfl hgo (K.pp [0, 0, 0] rfl) rfl ?_
 rintro u h1 H' - ⟨e, rfl, rfl⟩
 obtain rfl := e.symm
 have hk1 := hk.goes
 obtain ⟨ek, ec⟩ := goes_kept D
 cases hg : (goesQ D).1 with
 | false =>
  have er : writeQ D (a : Int) b = (8, (goesQ D).2) := by unfold writeQ; rw [if_neg hr, if_neg (by omega), hg]; rfl
  rw [er]
  (repeat' first | refine X.rq ?_ | refine X.rc ?_ ?_ <;> intro hc <;> try omega)
  exact K.dn (vs := [.int .i64 8]) rfl (K.Base.le.refl _) (H' := dkA d M (goesQ D).2) rfl ⟨rfl, M.ac, M.cap, M.c2, rfl⟩
 | true =>
  have er : writeQ D (a : Int) b = (0, { (goesQ D).2 with cache := D.cache ++ [(a, b)] }) := by unfold writeQ; rw [if_neg hr, if_neg (by omega), hg, Int.toNat_natCast]; rfl
  rw [er, ← ec]
  rw [← ek] at hal
  clear hgo hse hp hf hr er ek ec hk hg
  generalize (goesQ D).2 = D1 at *
  have hlo := lo_513 hk1
  have hsz := se_512 hk1
  have hroom := hk1.room
  have hf := hk1.few
  obtain ⟨kept, cache, trip, dark⟩ := D1
  obtain ⟨bk, ac, cap, c1, c2, c3⟩ := M
  dsimp only at hal hlo hsz hroom hf ⊢
  unfold dkA dkV keptA cacheA
  simp only [Go.K.cna]
  obtain ⟨_, bb, oo, rfl, hcel⟩ := BV.cels hb0 (by omega)
  have hb6 : (List.map u8 b).length = 512 := by rw [List.length_map, hb5]
  have hl5 : (loB (a, b)).length = 513 := by rw [loB_len]; show b.length + 1 = 513; omega
  (repeat' first | refine X.rq ?_ | refine X.rc ?_ ?_ <;> intro hc <;> try omega)
  refine X.sto ?_
  simp only [Go.K.nmz]
  (repeat' first | refine X.rq ?_ | refine X.rc ?_ ?_ <;> intro hc <;> try omega)
  refine X.drawN ([blk d 98 [bufV (some bk) kept.length kept.length, bufV ac cache.length cap, .int .i64 trip, .bool dark, .int .i64 c1, .int .i64 (IntKind.i64.wrap (c2 + 1)), .int .i64 c3]]) [14] (.pu 0 (.pu 1 (.pu 2 (.pu 3 (.pu 5 (.pu 6 (.pu 7 (.st 4 (.st 8 (.pu 9 (.on 10 (.on 11 (.pu 12 (.pu 13 (.cl 14 .nil))))))))))))))) ?_
  refine X.u_mv ?_
  refine X.u_mv ?_
  refine X.u_nc ?_
  refine X.u_fa ?_
  refine X.u_mv ?_
  refine X.u_mv ?_
  refine K.d_pu rfl (fun _ _ => K.p_arrAt (m := 512) (Fx.und rfl) rfl (show 512 ≤ b.length by omega)) rfl ?_
  refine X.s_ld ?_
  refine K.d_st rfl (K.p_loadM (Fx.agg rfl) rfl (Cels.up hcel) (Fx.sz rfl) hb6) rfl ?_
  refine K.d_pu rfl (fun _ _ => K.p_build plL zrL rfl (build_lo (a, b) hb5)) rfl ?_
  refine K.d_on rfl (fun KK hKK => ?_)
  refine K.l_buildSlice (cs := loB (a, b)) (Fx.und rfl) (Fx.sz rfl) rfl zrL rfl rfl (by simp [seqOk, Value.cells, hl5]) (by simp [cellsL, Value.cells]) rfl (fun B9 => ?_)
  refine K.l_nil ?_
  refine X.onE hKK ?_
  refine K.d_on rfl (fun KK hKK => ?_)
  refine K.l_append_at 3 rfl (Fx.und rfl) (Fx.und rfl) rfl (Fx.sz rfl) zrL rfl (Fx.byt rfl) rfl rfl (K.src_cells (m := 1) (K.cels_own (pre := []) (cs := loB (a, b)) (post := []) 0 (by rw [List.nil_append, List.append_nil]; rfl) rfl) (by rw [hl5]) (List.all_eq_true.1 (loB_ones (a, b)))) (by omega) (by omega) rfl (fun a' cap' => ?_)
  refine K.l_nil ?_
  refine X.onE hKK ?_
  refine X.u_nc ?_
  refine X.u_fa ?_
  refine K.d_cl rfl (fun KK hKK => ?_)
  refine X.sto ?_
  refine K.l_nil ?_
  refine K.d_clE hKK ?_
  refine K.d_nil ?_
  (repeat' first | refine X.rq ?_ | refine X.rc ?_ ?_ <;> intro hc <;> try omega)
  refine K.AT.drop ?_
  exact K.dn (vs := [.int .i64 0]) rfl (K.Base.le.refl _) (H' := [_, _, _]) rfl ⟨rfl, a', cap', IntKind.i64.wrap (c2 + 1), by simp [dkA, dkV, keptA, cacheA]⟩
/-! ### Sync -/
def setL (kept : List Sec) (cache : List Loo) : List Sec := cache.foldl (fun k l => k.set l.1 l.2) kept
theorem setL_snoc (kept : List Sec) (cache : List Loo) (l : Loo) : setL kept (cache ++ [l]) = (setL kept cache).set l.1 l.2 := by unfold setL; rw [List.foldl_append]; rfl
theorem setL_len (kept : List Sec) : ∀ cache : List Loo, (setL kept cache).length = kept.length := by
 intro cache
 unfold setL
 induction cache generalizing kept with
 | nil => rfl
 | cons l r ih => rw [List.foldl_cons, ih, List.length_set]
theorem mem_set {α : Type} {k : List α} {i : Nat} {x y : α} (h : y ∈ k.set i x) : y = x ∨ y ∈ k := by
 rcases List.mem_or_eq_of_mem_set h with h | h
 ·exact .inr h
 ·exact .inl h
theorem setL_512 {kept : List Sec} (hk : ∀ s ∈ kept, s.length = 512) : ∀ {cache : List Loo}, (∀ l ∈ cache, l.2.length = 512) → ∀ s ∈ setL kept cache, s.length = 512 := by
 intro cache
 unfold setL
 induction cache generalizing kept with
 | nil => intro _; exact hk
 | cons l r ih =>
  intro hc
  rw [List.foldl_cons]
  refine ih (fun s hs => ?_) fun x hx => hc x (List.mem_cons_of_mem _ hx)
  rcases mem_set hs with rfl | hs
  ·exact hc l (List.mem_cons_self ..)
  ·exact hk s hs
def syncQ (D : Dk) : Int × Dk := if (goesQ D).1 then (0, { (goesQ D).2 with kept := setL D.kept D.cache, cache := [] }) else (8, (goesQ D).2)
theorem Sync (h : Base) (d : Nat) (M : DM) (D : Dk) (hk : DkOk D) :
  Tr Tryz.prog 52 [dv d] h (dkA d M D) (fun u h' H' => u = .int .i64 (syncQ D).1 ∧ ∃ c, H' = dkA d { M with c3 := c } (syncQ D).2) := by
 have hgo := Goes h d M D hk
 refine K.en Tryz.func52 fun F => ?_
 (repeat' first | refine X.rq ?_ | refine X.rc ?_ ?_ <;> intro hc <;> try omega)
 refine K.l_call (Fx.cal rfl) rfl hgo (K.pp [0, 0, 0] rfl) rfl ?_
 rintro u h1 H' - ⟨e, rfl, rfl⟩
 obtain rfl := e.symm
 have hk1 := hk.goes
 obtain ⟨ek, ec⟩ := goes_kept D
 cases hg : (goesQ D).1 with
 | false =>
  have er : syncQ D = (8, (goesQ D).2) := by unfold syncQ; rw [hg]; rfl
  rw [er]
  (repeat' first | refine X.rq ?_ | refine X.rc ?_ ?_ <;> intro hc <;> try omega)
  exact K.dn (vs := [.int .i64 8]) rfl (K.Base.le.refl _) (H' := dkA d M (goesQ D).2) rfl ⟨rfl, M.c3, rfl⟩
 | true =>
  have er : syncQ D = (0, { (goesQ D).2 with kept := setL D.kept D.cache, cache := [] }) := by unfold syncQ; rw [hg]; rfl
  rw [er, ← ec, ← ek]
  clear hgo er ek ec hk hg
  generalize (goesQ D).2 = D1 at *
  have hlo := lo_513 hk1
  have hroom := hk1.room
  have hf := hk1.few
  have hlos := hk1.los
  have hsecs := hk1.secs
  have hem := fun c => Empty h d { M with c3 := c } { D1 with kept := setL D1.kept D1.cache } (fun l hl => (hk1.los l hl).2)
  obtain ⟨kept, cache, trip, dark⟩ := D1
  obtain ⟨bk, ac, cap, c1, c2, c3⟩ := M
  dsimp only at hlo hroom hf hlos hsecs hem ⊢
  unfold dkA dkV keptA cacheA at hem ⊢
  dsimp only at hem ⊢
  rw [setL_len] at hem ⊢
  simp only [Go.K.cna]
  (repeat' first | refine X.rq ?_ | refine X.rc ?_ ?_ <;> intro hc <;> try omega)
  refine X.sto ?_
  simp only [Go.K.nmz]
  (repeat' first | refine X.rq ?_ | refine X.rc ?_ ?_ <;> intro hc <;> try omega)
  refine K.c_loop (σ := Nat) (fun j => [(0, dv d), (20, bufV ac cache.length cap), (21, .int .i64 cache.length), (22, .int .i64 j)]) (fun _ => h)
   (fun j => blk d 98 [bufV (some bk) kept.length kept.length, bufV ac cache.length cap, .int .i64 trip, .bool dark, .int .i64 c1, .int .i64 c2, .int .i64 (IntKind.i64.wrap (c3 + 1))] :: bufA 99 512 (some bk) kept.length kept.length ((setL kept (cache.take j)).map seB).flatten :: bufA 101 513 ac cache.length cap (cache.map loB).flatten :: F)
   (fun j => j ≤ cache.length) (fun j => cache.length - j) 0 (Nat.zero_le _) (by repeat (first | exact K.Sub.nil _ | refine K.Sub.cons rfl ?_)) rfl rfl ?_
  rintro j hj KL hKL
  by_cases hjl : j < cache.length
  ·refine K.WC.someBuf 2 rfl (by omega) (fun b hb' => ?_)
   subst hb'
   obtain ⟨l, hl⟩ : ∃ l, cache[j]? = some l := ⟨_, List.getElem?_eq_getElem hjl⟩
   have hla : (cache.map loB)[j]? = some (loB l) := by rw [List.getElem?_map, hl]; rfl
   have hl5 : (loB l).length = 513 := hlo _ (List.mem_of_getElem? hla)
   obtain ⟨hl1, hl2⟩ := hlos l (List.mem_of_getElem? hl)
   have hset : setL kept (cache.take (j + 1)) = (setL kept (cache.take j)).set l.1 l.2 := by
    rw [List.take_add_one, hl]; exact setL_snoc _ _ _
   have hkl : (setL kept (cache.take j)).length = kept.length := setL_len _ _
   have hk5 : ∀ s ∈ setL kept (cache.take j), s.length = 512 := setL_512 hsecs fun l hl => (hlos l (List.mem_of_mem_take hl)).2
   have hz : ∀ e ∈ (setL kept (cache.take j)).map seB, e.length = 512 := fun e he => by
    obtain ⟨x, hx, rfl⟩ := List.mem_map.1 he
    rw [seB_len, hk5 x hx]
   obtain ⟨s0, hs0⟩ : ∃ s0, (setL kept (cache.take j))[l.1]? = some s0 := ⟨_, List.getElem?_eq_getElem (by omega)⟩
   have hsa : ((setL kept (cache.take j)).map seB)[l.1]? = some ([] ++ seB s0 ++ []) := by rw [List.getElem?_map, hs0, List.nil_append, List.append_nil]; rfl
   have hs5 := hk5 s0 (List.mem_of_getElem? hs0)
   (repeat' first | refine X.rq ?_ | refine X.rc ?_ ?_ <;> intro hc <;> try omega)
   rw [show 0 + (j : Int).toNat * 513 = j * 513 by omega]
   refine K.s_pure (K.p_loadM (Fx.agg rfl) rfl (K.cels_rowZ 2 rfl hlo hla) (Fx.sz rfl) hl5) rfl ?_
   refine K.l_alloc zrL rfl rfl (fun B4 => ?_)
   refine K.l_storeW_at 0 rfl (by rw [hl5]; exact (Fx.sz rfl)) rfl rfl (loB_ones _) (by rw [hl5, List.length_cons, nul_len]) rfl ?_
   simp only [Go.K.nmz]
   (repeat' first | refine X.rq ?_ | refine X.rc ?_ ?_ <;> intro hc <;> try omega)
   refine X.drawN ([blk B4 101 (loB l), blk d 98 [bufV (some bk) kept.length kept.length, bufV (some b) cache.length cap, .int .i64 trip, .bool dark, .int .i64 c1, .int .i64 c2, .int .i64 (IntKind.i64.wrap (c3 + 1))]]) [9] (.pu 0 (.pu 1 (.pu 2 (.pu 4 (.pu 6 (.st 3 (.st 5 (.st 7 (.pu 8 (.cl 9 .nil)))))))))) ?_
   refine X.u_mv ?_
   refine X.u_nc ?_
   refine X.u_fa ?_
   refine X.u_fa ?_
   refine X.u_fa ?_
   refine X.s_ld ?_
   refine X.s_ld ?_
   refine K.d_st rfl (K.p_loadM (vs := seB l.2) (Fx.agg rfl) rfl (K.cels_own (pre := []) (cs := loB l) (post := []) 0 (by rw [List.nil_append, List.append_nil]; rfl) rfl).2 (Fx.sz rfl) (by rw [seB_len, hl2])) rfl ?_
   refine X.u_ia ?_
   refine K.d_cl rfl (fun KK hKK => ?_)
   refine K.l_storePart (i := l.1) (c1 := []) (c2 := seB s0) (c3 := []) (us := seB l.2) 2 rfl (by rw [seB_len, hl2]; exact (Fx.sz rfl)) (by show some (Value.pointer (some ⟨bk, 0 + (l.1 : Int).toNat * 512, none⟩)) = _; rw [Nat.zero_add, Int.toNat_natCast]; rfl) rfl (seB_ones _) hz hsa (by rw [seB_len, seB_len, hl2, hs5]) ?_
   simp only [Go.K.nmz]
   refine K.l_nil ?_
   refine K.d_clE hKK ?_
   refine K.d_nil ?_
   (repeat' first | refine X.rq ?_ | refine X.rc ?_ ?_ <;> intro hc <;> try omega)
   refine K.AT.drop ?_
   rw [List.append_nil, ← List.map_set, ← hset]
   refine K.a_round hKL (j + 1) (by omega) (by repeat (first | exact K.Sub.nil _ | refine K.Sub.cons rfl ?_)) rfl rfl (by omega)
  ·obtain rfl : j = cache.length := by omega
   rw [List.take_length]
   (repeat' first | refine X.rq ?_ | refine X.rc ?_ ?_ <;> intro hc <;> try omega)
   refine K.l_call (Fx.cal rfl) rfl (hem (IntKind.i64.wrap (c3 + 1))) (K.pp [0, 0, 0] rfl) rfl ?_
   rintro u h1 H' - ⟨e, rfl, rfl⟩
   obtain rfl := e.symm
   (repeat' first | refine X.rq ?_ | refine X.rc ?_ ?_ <;> intro hc <;> try omega)
   exact K.dn (vs := [.int .i64 0]) rfl (K.Base.le.refl _) (H' := [_, _, _]) rfl ⟨rfl, IntKind.i64.wrap (c3 + 1), by simp [dkA, dkV, keptA, cacheA, setL_len]⟩
/-! ### Cut -/
/-! ### Image -/
structure ImS where
 j : Nat
 a : Option Nat
 k : Nat
end Go.Proofs.YtijbhgiigddjdaaGreat.Wl
end
