/-
  Texts joined: Sk Sl Sw. Conditions: each theorem's own.
-/
import Derived.Test.YtijbhgiigddjdaaGreatPA20
section
namespace Go.Proofs.YtijbhgiigddjdaaGreat.Wl
open Go Go.K Go.Proofs Go.Proofs.YtijbhgiigddjdaaGreat Go.Proofs.YtijbhgiigddjdaaGreat.Cc
set_option linter.unusedVariables false
set_option linter.unusedSimpArgs false
set_option maxRecDepth 10000

theorem StrSlice {n : NN} {E : Env} {h : Base} {W : LM} {l : List UInt8} {t ty : TypeId} {ps : String} {af : Array Edge} {dst : Option Nat} {x y : Operand} {f : Nat} (hs : StrOk h W l) (hu : Tryz.prog.underlying t = some (.slice 5)) (hx : lkO E x = some W.sv) (hy : lkO E y = some (.int .i64 f)) (hf : f ≤ l.length) :
  ∃ ao c, (∀ KK, W.sA ∈ KK → Pu Tryz.prog n E h KK ⟨dst, .slice t x (some y) none none, ty, ps, af, none⟩ (.slice ao (l.length - f) c)) ∧ ∀ KK, W.sA ∈ KK → ∀ k, k ≤ l.length - f → Src Tryz.prog h KK 1 (.slice ao k c) k (((l.drop f).take k).map u8) := by
 rcases hs with ⟨a, cap, e1, e2⟩ | ⟨ao, e1, hb, e2⟩
 ·refine ⟨if cap = f then a.map (fun b => ⟨b, 0, none⟩) else a.map (fun b => ⟨b, f, none⟩), cap - f, fun KK hK => ⟨fun ac w fa hsat => ?_⟩, fun KK hK k hk => ?_⟩
  ·have hown := hsat.own _ hK
   rw [e2] at hown
   rw [e1] at hx
   cases a with
   | none =>
    obtain ⟨h1, h2, h3⟩ := hown
    subst h2
    obtain rfl : f = 0 := by omega
    have hx0 : lkO E x = some (.slice none 0 0) := by rw [hx, bufV, h1]; rfl
    have := (K.p_slice0 (P := Tryz.prog) (h := h) (K := KK) (n := n) (t := t) (dst := dst) (ty := ty) (ps := ps) (af := af) (g := none) (lo := some y) (hi := none) (k1 := .i64) (k2 := .i64) hu ((Fx.sz rfl) : szOf Tryz.prog 5 = some 1) hx0 hy trivial).run ac w fa hsat
    rw [this]
    simp [h1]
   | some b =>
    obtain ⟨sp, fz, g1, g2, g3, g4, g5, g6⟩ := hown
    have := (K.p_slice (P := Tryz.prog) (h := h) (K := KK) (n := n) (t := t) (dst := dst) (ty := ty) (ps := ps) (af := af) (g := none) (lo := some y) (hi := none) (k1 := .i64) (k2 := .i64) (l := f) (u := l.length) (ao := if cap = f then some ⟨b, 0, none⟩ else some ⟨b, 0 + f * 1, none⟩) hu ((Fx.sz rfl) : szOf Tryz.prog 5 = some 1) hx ⟨_, hy, rfl⟩ rfl hf g4 rfl).run ac w fa hsat
    rw [this]
    simp
  ·have hlk : ((l.drop f).take k).length = k := by rw [List.length_take, List.length_drop]; omega
   refine ⟨fun w => by simp [Builtin.lenOf], by rw [List.length_map, hlk, Nat.mul_one], fun u hu => by obtain ⟨c, _, rfl⟩ := List.mem_map.1 hu; rfl, fun w hsat => ?_⟩
   have hown := hsat.own _ hK
   rw [e2] at hown
   cases a with
   | none =>
    obtain ⟨h1, h2, h3⟩ := hown
    obtain rfl : k = 0 := by omega
    simp [Builtin.firstCells]
   | some b =>
    obtain ⟨sp, fz, g1, g2, g3, g4, g5, g6⟩ := hown
    by_cases hcf : cap = f
    ·obtain rfl : k = 0 := by omega
     simp [Builtin.firstCells, hcf, loadCells, loadCellsFrom]
    ·rw [if_neg hcf]
     have hl : (loadCells ⟨b, f, none⟩ (((l.drop f).take k).map u8).length).run Tryz.prog w = .ok (((l.drop f).take k).map u8).toArray w := run_loadCells_list w _ _ fun j u hj => by
      rw [add_none]
      simp only [World.cell?, g1]
      rw [List.getElem?_map] at hj
      obtain ⟨c, hc, rfl⟩ := Option.map_eq_some_iff.1 hj
      rw [List.getElem?_take] at hc
      split at hc
      ·rw [List.getElem?_drop] at hc
       have hlt := (List.getElem?_eq_some_iff.1 hc).1
       simp [List.getElem?_append_left (show f + j < (l.map u8).length by simpa using hlt), hc]
      ·cases hc
     rw [List.length_map, hlk] at hl
     simp [Builtin.firstCells, hl]
 ·rw [e1] at hx hb
  by_cases h0 : l.length = 0
  ·have hl0 : l = [] := List.eq_nil_of_length_eq_zero h0
   subst hl0
   obtain rfl : f = 0 := by simpa using hf
   obtain ⟨ao', hz⟩ := K.p_sliceZ (P := Tryz.prog) (h := h) (K := []) (n := n) (E := E) (t := t) (dst := dst) (ty := ty) (ps := ps) (af := af) (g := none) (lo := some y) (hi := none) (k1 := .i64) (k2 := .i64) hu ((Fx.sz rfl) : szOf Tryz.prog 5 = some 1) hx hy trivial
   refine ⟨ao', 0, fun KK hK => ⟨fun ac w fa hsat => hz.run ac w fa ⟨hsat.imm, fun A hA => by cases hA⟩⟩, fun KK hK k hk => ?_⟩
   obtain rfl : k = 0 := by simpa using hk
   exact src_empty
  ·obtain ⟨_, b, o, rfl, hc⟩ := BV.cels hb (by omega)
   refine ⟨if l.length = f then some ⟨b, o, none⟩ else some ⟨b, o + f * 1, none⟩, l.length - f, fun KK hK => K.p_slice (lo := some y) (hi := none) (k1 := .i64) (k2 := .i64) (l := f) (u := l.length) hu ((Fx.sz rfl) : szOf Tryz.prog 5 = some 1) hx ⟨_, hy, rfl⟩ rfl hf (Nat.le_refl _) rfl, fun KK hK k hk => ?_⟩
   by_cases hcf : l.length = f
   ·obtain rfl : k = 0 := by omega
    exact src_empty
   ·rw [if_neg hcf]
    have e : l.map u8 = (l.take f).map u8 ++ (((l.drop f).take k).map u8 ++ ((l.drop f).drop k).map u8) := by
     rw [← List.map_append, ← List.map_append, List.take_append_drop, List.take_append_drop]
    rw [e] at hc
    have h2 := (Cels.append.1 (Cels.append.1 hc).2).1
    rw [List.length_map, List.length_take, Nat.min_eq_left hf] at h2
    rw [Nat.mul_one]
    exact K.src_cells (Cels.up h2) (by rw [List.length_map, List.length_take, List.length_drop]; omega) (fun u hu => by obtain ⟨c, _, rfl⟩ := List.mem_map.1 hu; rfl)
theorem StrSliceE {n : NN} {E : Env} {h : Base} {KK : List Asrt} {W : LM} {l : List UInt8} {t ty : TypeId} {ps : String} {af : Array Edge} {dst : Option Nat} {x y : Operand} {f : Nat} (hs : StrOk h W l) (hK : W.sA ∈ KK) (hu : Tryz.prog.underlying t = some (.slice 5)) (hx : lkO E x = some W.sv) (hy : lkO E y = some (.int .i64 f)) (hf : f ≤ l.length) :
  ∃ v, Pu Tryz.prog n E h KK ⟨dst, .slice t x (some y) none none, ty, ps, af, none⟩ v ∧ ∃ ao c, v = .slice ao (l.length - f) c ∧ ∀ KK, W.sA ∈ KK → ∀ k, k ≤ l.length - f → Src Tryz.prog h KK 1 (.slice ao k c) k (((l.drop f).take k).map u8) := by
 obtain ⟨ao, c, h1, h2⟩ := StrSlice (n := n) (E := E) (ty := ty) (ps := ps) (af := af) (dst := dst) hs hu hx hy hf
 exact ⟨_, h1 KK hK, ao, c, rfl, h2⟩
def partB (l : List UInt8) (i : Nat) : List UInt8 := (l.drop (i * 510)).take 510
def secB (l : List UInt8) (i : Nat) : Sec := padS (lebs (partB l i).length 2 ++ partB l i)
theorem part_le (l : List UInt8) (i : Nat) : (partB l i).length ≤ 510 := by unfold partB; rw [List.length_take]; omega
theorem sec_len (l : List UInt8) (i : Nat) : (secB l i).length = 512 := pad_len (by have := part_le l i; rw [List.length_append, lebs_length]; omega)
theorem part_min (l : List UInt8) (i : Nat) : (l.drop (min (i * 510) l.length)).take (min (l.length - min (i * 510) l.length) 510) = partB l i := by
 unfold partB
 by_cases h : i * 510 ≤ l.length
 ·have e : min (i * 510) l.length = i * 510 := by omega
  rw [e]
  by_cases h2 : l.length - i * 510 ≤ 510
  ·have e2 : min (l.length - i * 510) 510 = l.length - i * 510 := by omega
   rw [e2, List.take_of_length_le (by rw [List.length_drop]; omega), List.take_of_length_le (by rw [List.length_drop]; omega)]
  ·have e2 : min (l.length - i * 510) 510 = 510 := by omega
   rw [e2]
 ·have e : min (i * 510) l.length = l.length := by omega
  rw [e, List.drop_of_length_le (Nat.le_refl _), List.drop_of_length_le (by omega)]
  simp
theorem nul_three {k : Nat} (h : k ≤ 510) : nul 512 = nul 2 ++ nul k ++ nul (510 - k) := by
 unfold nul
 rw [List.replicate_append_replicate, List.replicate_append_replicate]
 congr 1
 omega
set_option maxHeartbeats 2000000 in
theorem Sector (h : Base) (p d : Nat) (W : LM) (L : Lg) (i : Nat) (hi : i ≤ 100000) (hsl : L.stream.length ≤ 100000000) (hs : StrOk h W L.stream) :
  Tr Tryz.prog 97 [pv p, .int .i64 i] h (lgA p d W L) (fun v h' H' => H' = lgA p d W L ∧ ∃ ao ca, v = .slice ao 512 ca ∧ BV h' (.slice ao 512 ca) (secB L.stream i)) := by
 have hs0 := hs
 obtain ⟨so, sc, hsv⟩ := hs.len
 refine K.enter Tryz.func97 rfl (Nat.le_of_ble_eq_true rfl) (fun F => ?_)
 unfold lgA lgV n64
 rw [hsv]
 simp only [List.cons_append, List.nil_append]
 (repeat' first | refine X.rq ?_ | refine X.rc ?_ ?_ <;> intro hc <;> try omega)
 refine K.l_alloc zrS rfl rfl (fun B5 => ?_)
 (repeat' first | refine X.rq ?_ | refine X.rc ?_ ?_ <;> intro hc <;> try omega)
 obtain ⟨f, hf⟩ : ∃ f, f = min (i * 510) L.stream.length := ⟨_, rfl⟩
 have hfl : f ≤ L.stream.length := by omega
 have hpm := part_min L.stream i
 rw [← hf] at hpm
 rw [show min ((i : Int) * 510) (L.stream.length : Int) = (f : Int) by omega]
 obtain ⟨k, hk⟩ : ∃ k, k = min (L.stream.length - f) 510 := ⟨_, rfl⟩
 have hk1 : k ≤ 510 := by omega
 have hpl : (partB L.stream i).length = k := by rw [← hpm, List.length_take, List.length_drop]; omega
 rw [← hk] at hpm
 rw [nul_three hk1]
 refine X.draw ([blk p 138 [dv d, .int .i64 L.m.n, .int .u64 (L.m.base : Int), .int .u64 (L.m.check : Int), .int .u32 L.m.kept, .bool L.m.wiped, .slice so L.stream.length sc, bufV W.ar L.starts.length W.kr, .int .u64 (L.durable : Int)], W.sA]) [] (.pu 0 (.pu 1 (.pu 2 (.pu 3 (.pu 5 (.st 4 (.st 6 (.on 7 (.pu 8 .nil))))))))) ?_ (hQ := by repeat (first | with_reducible refine K.NoPanic.then ?_ | with_reducible refine K.NoPanic.inBlock ?_ | with_reducible exact K.post_noPanic _ _ | exact K.post_noPanic _ _ | exact K.QN_noPanic | exact K.postS_noPanic | exact K.postX_noPanic | exact K.RPX_noPanic))
 refine K.d_pu rfl (fun _ _ => K.p_sliceFrom (l := 2) (Fx.und rfl) (Fx.sz rfl) rfl rfl (by decide)) rfl ?_
 refine K.d_pu rfl (fun _ _ => X.mv) rfl ?_
 refine K.d_pu rfl (fun _ _ => X.nc) rfl ?_
 refine K.d_pu rfl (fun _ _ => X.fa) rfl ?_
 refine K.d_pu rfl (fun _ _ => X.mv) rfl ?_
 refine K.d_st rfl X.ld rfl ?_
 refine K.d_stE rfl (StrSliceE hs0 (List.mem_cons_of_mem _ (List.mem_cons_self ..)) (Fx.und rfl) (by rw [hsv]; rfl) rfl hfl) rfl ?_
 rintro v6 ⟨ao, cc, rfl, hsrc⟩
 refine K.d_on rfl (fun KK hKK => ?_)
 refine K.l_copy (k := k) (xs := (partB L.stream i).map u8) (pre := nul 2) (cs := nul k) (post := nul (510 - k)) (Fx.und rfl) (Fx.sz rfl) rfl rfl (show Nat.min (L.stream.length - f) 510 = k from hk.symm) (hpm ▸ hsrc _ (by simp) k (by omega)) (by rw [List.length_map, hpl, nul_len]) (nul_len 2) (fun o ho => by rw [List.length_map, hpl] at ho; exact K.Free.zero _ o (by omega)) rfl ?_
 refine K.l_nil ?_
 refine X.onE hKK ?_
 refine K.d_pu rfl (fun _ _ => X.sg) rfl ?_
 refine K.d_nil ?_
 rw [show nul 2 = [.int .u8 0, .int .u8 0] from rfl]
 simp only [Go.K.nmz]
 (repeat' first | refine X.rq ?_ | refine X.rc ?_ ?_ <;> intro hc <;> try omega)
 refine X.sto ?_
 simp only [Go.K.nmz]
 (repeat' first | refine X.rq ?_ | refine X.rc ?_ ?_ <;> intro hc <;> try omega)
 refine X.sto ?_
 simp only [Go.K.nmz]
 (repeat' first | refine X.rq ?_ | refine X.rc ?_ ?_ <;> intro hc <;> try omega)
 have ec : ((((Value.int .u8 0 :: .int .u8 0 :: ((partB L.stream i).map u8 ++ nul (510 - k))).set (0 + Int.toNat 0 * 1) (.int .u8 (IntKind.u8.wrap (k : Int)))).set (0 + Int.toNat 1 * 1) (.int .u8 (IntKind.u8.wrap ((k : Int).fdiv (2 ^ min (Int.toNat 8) IntKind.i64.bits)))))) = (secB L.stream i).map u8 := by
  show Value.int .u8 (IntKind.u8.wrap (k : Int)) :: .int .u8 (IntKind.u8.wrap ((k : Int).fdiv (2 ^ min (Int.toNat 8) IntKind.i64.bits))) :: ((partB L.stream i).map u8 ++ nul (510 - k)) = _
  have e8 : (k : Int).fdiv (2 ^ min (Int.toNat 8) IntKind.i64.bits) = ((k / 256 : Nat) : Int) := by
   rw [show (2 : Int) ^ min (Int.toNat 8) IntKind.i64.bits = 256 from rfl, Int.fdiv_eq_ediv_of_nonneg _ (by decide)]
   omega
  have hll : (lebs k 2 ++ partB L.stream i).length = 2 + k := by rw [List.length_append, lebs_length, hpl]
  unfold secB padS
  rw [hpl, hll, e8, wn8, wn8, List.map_append, List.map_append, List.map_replicate, show 512 - (2 + k) = 510 - k by omega]
  have el : (lebs k 2).map u8 = [.int .u8 ((k % 256 : Nat) : Int), .int .u8 ((k / 256 % 256 : Nat) : Int)] := by
   simp [lebs, u8]
  rw [el]
  rfl
 rw [ec]
 refine K.s_pure (K.p_sliceAll (Fx.und rfl) (Fx.sz rfl) rfl) rfl ?_
 have ml := sec_len L.stream i
 refine K.WL.bufOf (m := 512) (s := 1) (by rw [List.length_map, ml]) (by unfold maxLen; omega) ?_
 refine K.WL.freezeBufN (l := secB L.stream i) ml.symm (fun h2 le2 hbv => ?_)
 (repeat' first | refine X.rq ?_ | refine X.rc ?_ ?_ <;> intro hc <;> try omega)
 exact K.done (vs := [.slice (some ⟨B5, 0, none⟩) 512 512]) (by first | exact Or.inl rfl | exact Or.inr rfl) rfl le2 (H' := [_, _, _]) rfl ⟨rfl, _, _, rfl, hbv⟩
end Go.Proofs.YtijbhgiigddjdaaGreat.Wl
end

section
namespace Go.Proofs.YtijbhgiigddjdaaGreat.Wl
open Go Go.K Go.Proofs Go.Proofs.YtijbhgiigddjdaaGreat Go.Proofs.YtijbhgiigddjdaaGreat.Cc
set_option linter.unusedVariables false
set_option linter.unusedSimpArgs false
set_option maxRecDepth 10000

def mendQ (l : List UInt8) : List Sec → Nat → Dk → Int × Dk
 | [], _, D => if 0 < D.cache.length then syncQ D else (0, D)
 | o :: r, i, D => if secB l i = o then mendQ l r (i + 1) D else if (writeQ D (1 + i : Nat) (secB l i)).1 ≠ 0 then writeQ D (1 + i : Nat) (secB l i) else mendQ l r (i + 1) (writeQ D (1 + i : Nat) (secB l i)).2
theorem mend_ok (l : List UInt8) : ∀ (old : List Sec) (i : Nat) {D : Dk}, DkOk D → D.cache.length + old.length ≤ roomMax → DkOk (mendQ l old i D).2 ∧ (mendQ l old i D).2.cache.length ≤ D.cache.length + old.length ∧ (mendQ l old i D).2.kept.length = D.kept.length
 | [], i, D, h, hr => by
  rw [mendQ]
  split
  ·obtain ⟨a, b, c⟩ := sync_ok h
   exact ⟨a, Nat.le_trans b (Nat.le_add_right _ _), c⟩
  ·exact ⟨h, Nat.le_add_right _ _, rfl⟩
 | o :: r, i, D, h, hr => by
  rw [List.length_cons] at hr ⊢
  rw [mendQ]
  split
  ·obtain ⟨a, b, c⟩ := mend_ok l r (i + 1) h (by omega)
   exact ⟨a, by omega, c⟩
  ·obtain ⟨a, b, c⟩ := write_ok h (by omega) (1 + i : Nat) (secB l i)
   split
   ·exact ⟨a, by omega, c⟩
   ·obtain ⟨x, y, z⟩ := mend_ok l r (i + 1) a (by omega)
    exact ⟨x, by omega, z.trans c⟩
set_option maxHeartbeats 2000000 in
theorem Mend (h : Base) (p d : Nat) (W : LM) (L : Lg) (M : DM) (D : Dk) (v : Value) (old : List Sec) (hv : SL h 512 v (old.map seB)) (ho : ∀ s ∈ old, s.length = 512) (hol : old.length ≤ 8192) (hsl : L.stream.length ≤ 100000000) (hs : StrOk h W L.stream) (hk : DkOk D) (hr : D.cache.length + 10000 ≤ roomMax) :
  Tr Tryz.prog 59 [pv p, v] h (lgA p d W L ++ dkA d M D) (fun u h' H' => u = .int .i64 (mendQ L.stream old 0 D).1 ∧ ∃ M', H' = lgA p d W L ++ dkA d M' (mendQ L.stream old 0 D).2) := by
 obtain ⟨ao, ca, rfl⟩ := hv.len
 rw [List.length_map] at hv ⊢
 refine K.enter Tryz.func59 rfl (Nat.le_of_ble_eq_true rfl) (fun F => ?_)
 (repeat' first | refine X.rq ?_ | refine X.rc ?_ ?_ <;> intro hc <;> try omega)
 refine K.c_loop (σ := SpS) (fun q => [(0, pv p), (1, .slice ao old.length ca), (9, .int .i64 old.length), (10, .int .i64 q.j)]) (fun q => q.hb) (fun q => (lgA p d W L ++ dkA d q.M q.D) ++ F)
  (fun q => q.j ≤ old.length ∧ h.le q.hb ∧ DkOk q.D ∧ q.D.cache.length + (old.length - q.j) + 1000 ≤ roomMax ∧ mendQ L.stream old 0 D = mendQ L.stream (old.drop q.j) q.j q.D) (fun q => old.length - q.j) ⟨0, h, M, D⟩ ⟨Nat.zero_le _, K.Base.le.refl _, hk, by dsimp only; omega, rfl⟩ (by repeat (first | exact K.Sub.nil _ | refine K.Sub.cons rfl ?_)) rfl rfl ?_
 rintro ⟨j, hb, M1, D1⟩ ⟨hj, hle, hk1, hr1, hq⟩ KL hKL
 dsimp only at hj hle hk1 hr1 hq ⊢
 have hs1 := hs.le hle
 by_cases hjl : j < old.length
 ·obtain ⟨o, hoj⟩ : ∃ o, old[j]? = some o := ⟨_, List.getElem?_eq_getElem hjl⟩
  have hdr : old.drop j = o :: old.drop (j + 1) := by rw [List.drop_eq_getElem_cons hjl, (List.getElem?_eq_some_iff.1 hoj).2]
  rw [hdr, mendQ] at hq
  have ho5 := ho o (List.mem_of_getElem? hoj)
  have hoe : (old.map seB)[j]? = some (seB o) := by rw [List.getElem?_map, hoj]; rfl
  obtain ⟨bb, oo, rfl, hcel⟩ := (hv.le hle).at hoe
  obtain ⟨a1, a2, a3⟩ := write_ok hk1 (by omega) (1 + j : Nat) (secB L.stream j)
  (repeat' first | refine X.rq ?_ | refine X.rc ?_ ?_ <;> intro hc <;> try omega)
  refine K.l_call (Fx.cal rfl) rfl (Sector hb p d W L j (by omega) hsl hs1) (K.pp [0, 0, 0] rfl) rfl ?_
  rintro u h2 H' le2 ⟨rfl, asx, csx, rfl, hbs⟩
  have hbo : BV h2 (.slice (some ⟨bb, oo + (j : Int).toNat * 512, none⟩) 512 512) o := .inr ⟨bb, oo + (j : Int).toNat * 512, 512, by rw [ho5], by omega, by rw [Int.toNat_natCast]; exact Cels.le le2 hcel⟩
  (repeat' first | refine X.rq ?_ | refine X.rc ?_ ?_ <;> intro hc <;> try omega)
  refine K.s_pure (K.p_sliceAll (Fx.und rfl) (Fx.sz rfl) rfl) rfl ?_
  refine K.l_callV (Fx.cal rfl) rfl (Equal h2 _ _ _ _ hbs hbo) (K.pp [] rfl) rfl rfl ?_
  by_cases he : secB L.stream j = o
  ·rw [if_pos he] at hq
   rw [decide_eq_true he]
   (repeat' first | refine X.rq ?_ | refine X.rc ?_ ?_ <;> intro hc <;> try omega)
   refine K.a_round hKL ⟨j + 1, h2, M1, D1⟩ ⟨by dsimp only; omega, hle.trans le2, hk1, by dsimp only; omega, hq⟩ (by repeat (first | exact K.Sub.nil _ | refine K.Sub.cons rfl ?_)) rfl rfl (by dsimp only; omega)
  ·rw [if_neg he] at hq
   rw [decide_eq_false he]
   (repeat' first | refine X.rq ?_ | refine X.rc ?_ ?_ <;> intro hc <;> try omega)
   rw [show (1 : Int) + (j : Int) = ((1 + j : Nat) : Int) by omega]
   refine K.l_call (Fx.cal rfl) rfl (Write h2 d M1 D1 ((1 + j : Nat) : Int) _ (secB L.stream j) hk1 (by omega) (by omega) hbs (by rw [sec_len]; omega)) (K.pp [3, 3, 3] rfl) rfl ?_
   rintro u h3 H' le3 ⟨rfl, ac, cap, c, rfl⟩
   have hle3 := hle.trans (le2.trans le3)
   by_cases hw : (writeQ D1 ((1 + j : Nat) : Int) (secB L.stream j)).1 = 0
   ·rw [if_neg (by omega)] at hq
    rw [hw]
    (repeat' first | refine X.rq ?_ | refine X.rc ?_ ?_ <;> intro hc <;> try omega)
    all_goals try (exfalso; omega)
    refine K.AT.perm (K.pp [3, 3, 3] rfl) ?_
    refine K.a_round hKL ⟨j + 1, h3, { M1 with ac := ac, cap := cap, c2 := c }, (writeQ D1 ((1 + j : Nat) : Int) (secB L.stream j)).2⟩ ⟨by dsimp only; omega, hle3, a1, by dsimp only; omega, hq⟩ (by repeat (first | exact K.Sub.nil _ | refine K.Sub.cons rfl ?_)) rfl rfl (by dsimp only; omega)
   ·rw [if_pos hw] at hq
    (repeat' first | refine X.rq ?_ | refine X.rc ?_ ?_ <;> intro hc <;> try omega)
    all_goals try (exfalso; omega)
    refine K.AT.perm (K.pp [3, 3, 3] rfl) ?_
    exact K.done (vs := [.int .i64 (writeQ D1 ((1 + j : Nat) : Int) (secB L.stream j)).1]) (by first | exact Or.inl rfl | exact Or.inr rfl) rfl hle3 (H' := [_, _, _, _, _, _]) rfl ⟨by rw [hq]; rfl, { M1 with ac := ac, cap := cap, c2 := c }, by rw [hq]; rfl⟩
 ·obtain rfl : j = old.length := by omega
  rw [List.drop_of_length_le (Nat.le_refl _), mendQ] at hq
  have hpe := Pending hb d M1 D1
  (repeat' first | refine X.rq ?_ | refine X.rc ?_ ?_ <;> intro hc <;> try omega)
  refine K.l_callV (Fx.cal rfl) rfl hpe (K.pp [3, 3, 3] rfl) rfl rfl ?_
  by_cases hc : 0 < D1.cache.length
  ·rw [if_pos hc] at hq
   refine K.WL.perm (K.pp [3, 3, 3] rfl) ?_
   (repeat' first | refine X.rq ?_ | refine X.rc ?_ ?_ <;> intro hc <;> try omega)
   all_goals try (exfalso; omega)
   refine K.l_call (Fx.cal rfl) rfl (Sync hb d M1 D1 hk1) (K.pp [3, 3, 3] rfl) rfl ?_
   rintro u h3 H' le3 ⟨rfl, c, rfl⟩
   (repeat' first | refine X.rq ?_ | refine X.rc ?_ ?_ <;> intro hc <;> try omega)
   refine K.AT.perm (K.pp [3, 3, 3] rfl) ?_
   exact K.done (vs := [.int .i64 (syncQ D1).1]) (by first | exact Or.inl rfl | exact Or.inr rfl) rfl (hle.trans le3) (H' := [_, _, _, _, _, _]) rfl ⟨by rw [hq]; rfl, { M1 with c3 := c }, by rw [hq]; rfl⟩
  ·rw [if_neg hc] at hq
   (repeat' first | refine X.rq ?_ | refine X.rc ?_ ?_ <;> intro hc <;> try omega)
   all_goals try (exfalso; omega)
   refine K.AT.perm (K.pp [3, 3, 3] rfl) ?_
   exact K.done (vs := [.int .i64 0]) (by first | exact Or.inl rfl | exact Or.inr rfl) rfl hle (H' := [_, _, _, _, _, _]) rfl ⟨by rw [hq]; rfl, M1, by rw [hq]; rfl⟩
end Go.Proofs.YtijbhgiigddjdaaGreat.Wl
end

section
namespace Go.Proofs.YtijbhgiigddjdaaGreat.Wl
open Go Go.K Go.Proofs Go.Proofs.YtijbhgiigddjdaaGreat Go.Proofs.YtijbhgiigddjdaaGreat.Cc
set_option linter.unusedVariables false
set_option linter.unusedSimpArgs false
set_option maxRecDepth 10000

def V (D : Dk) (i : Nat) : Sec := viewQ D.kept D.cache i
def Cand (D : Dk) (i : Nat) (s : Sec) : Prop := D.kept[i]? = some s ∨ (i, s) ∈ D.cache
def NoTrip (D : Dk) : Prop := D.dark = false ∧ D.trip = -1
structure Pow (D : Dk) (r : Int × Dk) : Prop where
 err : r.1 = 0 ∨ (r.1 = 8 ∧ r.2.dark = true)
 on : NoTrip D → r.1 = 0 ∧ NoTrip r.2
theorem Pow.trans {D : Dk} {r r' : Int × Dk} (h : Pow D r) (h' : Pow r.2 r') : Pow D r' := ⟨h'.err, fun hn => h'.on (h.on hn).2⟩
theorem goes_dark {D : Dk} (h : (goesQ D).1 = false) : (goesQ D).2.dark = true := by
 unfold goesQ at h ⊢
 split
 ·assumption
 ·rename_i h1
  rw [if_neg h1] at h
  split
  ·rfl
  ·rename_i h2
   rw [if_neg h2] at h
   split at h <;> cases h
theorem goes_on {D : Dk} (h : NoTrip D) : goesQ D = (true, D) := by
 unfold goesQ
 rw [if_neg (by rw [h.1]; decide), if_neg (by rw [h.2]; decide), if_neg (by rw [h.2]; decide)]
theorem Cand.of {D D' : Dk} (h1 : D'.kept = D.kept) (h2 : D'.cache = D.cache) {i : Nat} {s : Sec} (h : Cand D' i s) : Cand D i s := by
 unfold Cand at h ⊢; rw [← h1, ← h2]; exact h
theorem V.of {D D' : Dk} (h1 : D'.kept = D.kept) (h2 : D'.cache = D.cache) (i : Nat) : V D' i = V D i := by unfold V; rw [h1, h2]
theorem write_sem {D : Dk} {a : Nat} {b : Sec} (ha : a < D.kept.length) (hb : b.length = 512) :
  Pow D (writeQ D a b) ∧ (writeQ D a b).2.kept = D.kept ∧ (((writeQ D a b).1 = 0 ∧ (writeQ D a b).2.cache = D.cache ++ [(a, b)]) ∨ ((writeQ D a b).1 = 8 ∧ (writeQ D a b).2.cache = D.cache)) := by
 obtain ⟨g1, g2⟩ := goes_kept D
 unfold writeQ
 rw [if_neg (by omega), if_neg (by omega)]
 cases hg : (goesQ D).1 with
 | false =>
  rw [if_neg (by decide)]
  refine ⟨⟨.inr ⟨rfl, goes_dark hg⟩, fun hn => ?_⟩, g1, .inr ⟨rfl, g2⟩⟩
  rw [goes_on hn] at hg; cases hg
 | true =>
  rw [if_pos rfl, Int.toNat_natCast]
  refine ⟨⟨.inl rfl, fun hn => ⟨rfl, ?_⟩⟩, g1, .inl ⟨rfl, rfl⟩⟩
  rw [goes_on hn]; exact hn
theorem sync_sem (D : Dk) : Pow D (syncQ D) ∧ (((syncQ D).1 = 0 ∧ (syncQ D).2.kept = setL D.kept D.cache ∧ (syncQ D).2.cache = []) ∨ ((syncQ D).1 = 8 ∧ (syncQ D).2.kept = D.kept ∧ (syncQ D).2.cache = D.cache)) := by
 obtain ⟨g1, g2⟩ := goes_kept D
 unfold syncQ
 cases hg : (goesQ D).1 with
 | false =>
  rw [if_neg (by decide)]
  refine ⟨⟨.inr ⟨rfl, goes_dark hg⟩, fun hn => ?_⟩, .inr ⟨rfl, g1, g2⟩⟩
  rw [goes_on hn] at hg; cases hg
 | true =>
  rw [if_pos rfl]
  refine ⟨⟨.inl rfl, fun hn => ⟨rfl, ?_⟩⟩, .inl ⟨rfl, rfl, rfl⟩⟩
  rw [goes_on hn]; exact hn
theorem read_sem {D : Dk} {a : Nat} (ha : a < D.kept.length) : (readQ D a).2.kept = D.kept ∧ (readQ D a).2.cache = D.cache ∧ (((readQ D a).1 = .ok (V D a) ∧ (NoTrip D → NoTrip (readQ D a).2)) ∨ ((readQ D a).1 = .error 8 ∧ (readQ D a).2.dark = true ∧ ¬ NoTrip D)) := by
 obtain ⟨g1, g2⟩ := goes_kept D
 unfold readQ
 rw [if_neg (by omega)]
 cases hg : (goesQ D).1 with
 | false =>
  rw [if_neg (by decide)]
  exact ⟨g1, g2, .inr ⟨rfl, goes_dark hg, fun hn => by rw [goes_on hn] at hg; cases hg⟩⟩
 | true =>
  rw [if_pos rfl, Int.toNat_natCast]
  exact ⟨g1, g2, .inl ⟨rfl, fun hn => by rw [goes_on hn]; exact hn⟩⟩
theorem fold_view (i : Nat) : ∀ (l : List Loo) (x : Sec), l.foldl (fun x l => if l.1 = i then l.2 else x) x = x ∨ (i, l.foldl (fun x l => if l.1 = i then l.2 else x) x) ∈ l
 | [], x => .inl rfl
 | y :: l, x => by
  rw [List.foldl_cons]
  rcases fold_view i l (if y.1 = i then y.2 else x) with h | h
  ·rw [h]
   split
   ·rename_i hy; exact .inr (by rw [← hy]; exact List.mem_cons_self ..)
   ·exact .inl rfl
  ·exact .inr (List.mem_cons_of_mem _ h)
theorem view_cand {D : Dk} {i : Nat} (hi : i < D.kept.length) : Cand D i (V D i) := by
 unfold Cand V viewQ
 rcases fold_view i D.cache (D.kept.getD i []) with h | h
 ·rw [h, List.getD_eq_getElem?_getD, List.getElem?_eq_getElem hi]; exact .inl rfl
 ·exact .inr h
theorem set_view (kept : List Sec) (i : Nat) (hi : i < kept.length) : ∀ cache : List Loo, (setL kept cache)[i]? = some (viewQ kept cache i) := fun cache => by
 obtain ⟨l, rfl⟩ : ∃ l, cache = l.reverse := ⟨cache.reverse, by simp⟩
 induction l with
 | nil => show kept[i]? = some (kept.getD i []); rw [List.getD_eq_getElem?_getD, List.getElem?_eq_getElem hi]; rfl
 | cons x l ih =>
  rw [List.reverse_cons, setL_snoc, view_snoc]
  by_cases hx : x.1 = i
  ·rw [if_pos hx, hx, List.getElem?_set_self (by rw [setL_len]; exact hi)]
  ·rw [if_neg hx, List.getElem?_set_ne hx, ih]
theorem set_cand (kept : List Sec) (i : Nat) (s : Sec) : ∀ cache : List Loo, (setL kept cache)[i]? = some s → kept[i]? = some s ∨ (i, s) ∈ cache := fun cache => by
 obtain ⟨l, rfl⟩ : ∃ l, cache = l.reverse := ⟨cache.reverse, by simp⟩
 induction l with
 | nil => exact fun h => .inl h
 | cons x l ih =>
  intro h
  rw [List.reverse_cons, setL_snoc] at h
  rw [List.reverse_cons]
  by_cases hx : x.1 = i
  ·have hlt : i < (setL kept l.reverse).length := by have := (List.getElem?_eq_some_iff.1 h).1; rwa [List.length_set] at this
   rw [hx, List.getElem?_set_self hlt] at h
   cases h
   exact .inr (List.mem_append_right _ (by rw [← hx]; exact List.mem_singleton.2 rfl))
  ·rw [List.getElem?_set_ne hx] at h
   rcases ih h with h | h
   ·exact .inl h
   ·exact .inr (List.mem_append_left _ h)
theorem sync_cand {D : Dk} {i : Nat} {s : Sec} (h : Cand (syncQ D).2 i s) : Cand D i s := by
 rcases (sync_sem D).2 with ⟨_, h1, h2⟩ | ⟨_, h1, h2⟩
 ·unfold Cand at h
  rw [h1, h2] at h
  rcases h with h | h
  ·exact set_cand _ _ _ _ h
  ·cases h
 ·exact h.of h1 h2
theorem sync_view {D : Dk} {i : Nat} (hi : i < D.kept.length) : V (syncQ D).2 i = V D i := by
 rcases (sync_sem D).2 with ⟨_, h1, h2⟩ | ⟨_, h1, h2⟩
 ·unfold V
  rw [h1, h2]
  have := set_view D.kept i hi D.cache
  show (setL D.kept D.cache).getD i [] = _
  rw [List.getD_eq_getElem?_getD, this]; rfl
 ·exact V.of h1 h2 i
theorem write_cand {D : Dk} {a : Nat} {b : Sec} (ha : a < D.kept.length) (hb : b.length = 512) {i : Nat} {s : Sec} (h : Cand (writeQ D a b).2 i s) : Cand D i s ∨ (i = a ∧ s = b) := by
 obtain ⟨_, h1, h2⟩ := write_sem ha hb
 unfold Cand at h ⊢
 rw [h1] at h
 rcases h with h | h
 ·exact .inl (.inl h)
 ·rcases h2 with ⟨_, e⟩ | ⟨_, e⟩
  ·rw [e] at h
   rcases List.mem_append.1 h with h | h
   ·exact .inl (.inr h)
   ·cases List.mem_singleton.1 h; exact .inr ⟨rfl, rfl⟩
  ·rw [e] at h; exact .inl (.inr h)
theorem write_view {D : Dk} {a : Nat} {b : Sec} (ha : a < D.kept.length) (hb : b.length = 512) (h0 : (writeQ D a b).1 = 0) (i : Nat) : V (writeQ D a b).2 i = if a = i then b else V D i := by
 obtain ⟨_, h1, h2⟩ := write_sem ha hb
 rcases h2 with ⟨_, e⟩ | ⟨e8, e⟩
 ·unfold V
  rw [h1, e, view_snoc]
 ·omega
structure Ran (D : Dk) (r : Int × Dk) (f : Nat → Sec) (i n : Nat) : Prop where
 pow : Pow D r
 kept : r.2.kept = D.kept
 cand : ∀ j s, Cand r.2 j s → Cand D j s ∨ (i ≤ j ∧ j < i + n ∧ s = f j)
 view : r.1 = 0 → ∀ j, V r.2 j = if i ≤ j ∧ j < i + n then f j else V D j
theorem ran_zero (D : Dk) (f : Nat → Sec) (i : Nat) : Ran D (0, D) f i 0 := ⟨⟨.inl rfl, fun h => ⟨rfl, h⟩⟩, rfl, fun j s h => .inl h, fun _ j => by rw [if_neg (by omega)]⟩
theorem ran_succ {D : Dk} {f : Nat → Sec} {i n : Nat} {r : Int × Dk} (hi : i < D.kept.length) (hf : (f i).length = 512) (hr : (writeQ D i (f i)).1 = 0 → Ran (writeQ D i (f i)).2 r f (i + 1) n) :
  Ran D (if (writeQ D i (f i)).1 ≠ 0 then writeQ D i (f i) else r) f i (n + 1) := by
 obtain ⟨hp, hk, hc⟩ := write_sem hi hf
 by_cases h0 : (writeQ D i (f i)).1 = 0
 ·rw [if_neg (by omega)]
  have hr := hr h0
  refine ⟨hp.trans hr.pow, hr.kept.trans hk, fun j s h => ?_, fun e j => ?_⟩
  ·rcases hr.cand j s h with h | ⟨a, b, c⟩
   ·rcases write_cand hi hf h with h | ⟨rfl, rfl⟩
    ·exact .inl h
    ·exact .inr ⟨Nat.le_refl _, by omega, rfl⟩
   ·exact .inr ⟨by omega, by omega, c⟩
  ·rw [hr.view e j]
   by_cases hj : i + 1 ≤ j ∧ j < i + 1 + n
   ·rw [if_pos hj, if_pos (by omega)]
   ·rw [if_neg hj, write_view hi hf h0]
    by_cases hji : i = j
    ·subst hji; rw [if_pos rfl, if_pos (by omega)]
    ·rw [if_neg hji, if_neg (by omega)]
 ·rw [if_pos h0]
  refine ⟨hp, hk, fun j s h => ?_, fun e => absurd e h0⟩
  rcases write_cand hi hf h with h | ⟨rfl, rfl⟩
  ·exact .inl h
  ·exact .inr ⟨Nat.le_refl _, by omega, rfl⟩
theorem wipe_ran : ∀ (n i : Nat) {D : Dk}, 1 + i + n ≤ D.kept.length → Ran D (wipeQ n i D) (fun _ => zs) (1 + i) n
 | 0, i, D, h => by rw [wipeQ]; exact ran_zero D _ _
 | n + 1, i, D, h => by
  rw [wipeQ]
  refine ran_succ (f := fun _ => zs) (by omega) zs_len fun _ => ?_
  have := wipe_ran n (i + 1) (D := (writeQ D ((1 + i : Nat) : Int) zs).2) (by rw [(write_sem (by omega) zs_len).2.1]; omega)
  rwa [show 1 + (i + 1) = 1 + i + 1 by omega] at this
def flQ (l : List UInt8) : Nat → Nat → Dk → Int × Dk
 | 0, _, D => (0, D)
 | k + 1, i, D => if (writeQ D (1 + i : Nat) (secB l i)).1 ≠ 0 then writeQ D (1 + i : Nat) (secB l i) else flQ l k (i + 1) (writeQ D (1 + i : Nat) (secB l i)).2
theorem fl_ok (l : List UInt8) : ∀ (k i : Nat) {D : Dk}, DkOk D → D.cache.length + k ≤ roomMax → DkOk (flQ l k i D).2 ∧ (flQ l k i D).2.cache.length ≤ D.cache.length + k ∧ (flQ l k i D).2.kept.length = D.kept.length
 | 0, i, D, h, hr => ⟨h, Nat.le_refl _, rfl⟩
 | k + 1, i, D, h, hr => by
  obtain ⟨a, b, c⟩ := write_ok h (by omega) (1 + i : Nat) (secB l i)
  rw [flQ]
  split
  ·exact ⟨a, by omega, c⟩
  ·obtain ⟨x, y, z⟩ := fl_ok l k (i + 1) a (by omega)
   exact ⟨x, by omega, z.trans c⟩
theorem fl_ran (l : List UInt8) : ∀ (n i : Nat) {D : Dk}, 1 + i + n ≤ D.kept.length → Ran D (flQ l n i D) (fun j => secB l (j - 1)) (1 + i) n
 | 0, i, D, h => by rw [flQ]; exact ran_zero D _ _
 | n + 1, i, D, h => by
  have e : secB l i = (fun j => secB l (j - 1)) (1 + i) := by dsimp only; rw [Nat.add_sub_cancel_left]
  rw [flQ, e]
  refine ran_succ (f := fun j => secB l (j - 1)) (by omega) (sec_len _ _) fun _ => ?_
  have := fl_ran l n (i + 1) (D := (writeQ D ((1 + i : Nat) : Int) (secB l (1 + i - 1))).2) (by rw [(write_sem (by omega) (sec_len _ _)).2.1]; omega)
  rwa [show 1 + (i + 1) = 1 + i + 1 by omega] at this
theorem cand_kept {D : Dk} (h : D.cache = []) {i : Nat} {s : Sec} : Cand D i s → D.kept[i]? = some s := fun hc => by
 rcases hc with h1 | h1
 ·exact h1
 ·rw [h] at h1; cases h1
theorem view_kept {D : Dk} (h : D.cache = []) {i : Nat} (hi : i < D.kept.length) : D.kept[i]? = some (V D i) := cand_kept h (view_cand hi)
end Go.Proofs.YtijbhgiigddjdaaGreat.Wl
end
