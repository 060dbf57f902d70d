/-
 A log's sector as it is to be. Conditions: each theorem's own.
-/
import Derived.Test.YtmcdaegaopfihaaGreatY33
namespace Go.Proofs.YtmcdaegaopfihaaGreat.Wl
open Go Go.K Go.Proofs Go.Proofs.YtmcdaegaopfihaaGreat Go.Proofs.YtmcdaegaopfihaaGreat.Cc
set_option linter.unusedVariables false
set_option linter.unusedSimpArgs false
set_option maxRecDepth 10000

theorem StrSlice {n : NN} {E : Env} {h : Base} {W : LM} {l : List UInt8} {t ty : TypeId} {ps : String} {af : Array Edge} {dst : Option Nat} {x y : Operand} {f : Nat} (hs : StrOk h W l) (hu : Tryz.prog.underlying t = some (.slice 5)) (hx : lkO E x = some W.sv) (hy : lkO E y = some (.int .i64 f)) (hf : f ≤ l.length) :
  ∃ ao c, (∀ KK, W.sA ∈ KK → Pu Tryz.prog n E h KK ⟨dst, .slice t x (some y) none none, ty, ps, af, none⟩ (.slice ao (l.length - f) c)) ∧ ∀ KK, W.sA ∈ KK → ∀ k, k ≤ l.length - f → Src Tryz.prog h KK 1 (.slice ao k c) k (((l.drop f).take k).map u8) := by
 rcases hs with ⟨a, cap, e1, e2⟩ | ⟨ao, e1, hb, e2⟩
 ·refine ⟨if cap = f then a.map (fun b => ⟨b, 0, none⟩) else a.map (fun b => ⟨b, f, none⟩), cap - f, fun KK hK => ⟨fun ac w fa hsat => ?_⟩, fun KK hK k hk => ?_⟩
  ·have hown := hsat.own _ hK
   rw [e2] at hown
   rw [e1] at hx
   cases a with
   | none =>
    obtain ⟨h1, h2, h3⟩ := hown
    subst h2
    obtain rfl : f = 0 := by omega
    have hx0 : lkO E x = some (.slice none 0 0) := by rw [hx, bufV, h1]; rfl
    have := (K.p_slice0 (P := Tryz.prog) (h := h) (K := KK) (n := n) (t := t) (dst := dst) (ty := ty) (ps := ps) (af := af) (g := none) (lo := some y) (hi := none) (k1 := .i64) (k2 := .i64) hu ((Fx.sz rfl) : szOf Tryz.prog 5 = some 1) hx0 hy trivial).run ac w fa hsat
    rw [this]
    simp [h1]
   | some b =>
    obtain ⟨sp, fz, g1, g2, g3, g4, g5, g6⟩ := hown
    have := (K.p_slice (P := Tryz.prog) (h := h) (K := KK) (n := n) (t := t) (dst := dst) (ty := ty) (ps := ps) (af := af) (g := none) (lo := some y) (hi := none) (k1 := .i64) (k2 := .i64) (l := f) (u := l.length) (ao := if cap = f then some ⟨b, 0, none⟩ else some ⟨b, 0 + f * 1, none⟩) hu ((Fx.sz rfl) : szOf Tryz.prog 5 = some 1) hx ⟨_, hy, rfl⟩ rfl hf g4 rfl).run ac w fa hsat
    rw [this]
    simp
  ·have hlk : ((l.drop f).take k).length = k := by rw [List.length_take, List.length_drop]; omega
   refine ⟨fun w => by simp [Builtin.lenOf], by rw [List.length_map, hlk, Nat.mul_one], fun u hu => by obtain ⟨c, _, rfl⟩ := List.mem_map.1 hu; rfl, fun w hsat => ?_⟩
   have hown := hsat.own _ hK
   rw [e2] at hown
   cases a with
   | none =>
    obtain ⟨h1, h2, h3⟩ := hown
    obtain rfl : k = 0 := by omega
    simp [Builtin.firstCells]
   | some b =>
    obtain ⟨sp, fz, g1, g2, g3, g4, g5, g6⟩ := hown
    by_cases hcf : cap = f
    ·obtain rfl : k = 0 := by omega
     simp [Builtin.firstCells, hcf, loadCells, loadCellsFrom]
    ·rw [if_neg hcf]
     have hl : (loadCells ⟨b, f, none⟩ (((l.drop f).take k).map u8).length).run Tryz.prog w = .ok (((l.drop f).take k).map u8).toArray w := run_loadCells_list w _ _ fun j u hj => by
      rw [add_none]
      simp only [World.cell?, g1]
      rw [List.getElem?_map] at hj
      obtain ⟨c, hc, rfl⟩ := Option.map_eq_some_iff.1 hj
      rw [List.getElem?_take] at hc
      split at hc
      ·rw [List.getElem?_drop] at hc
       have hlt := (List.getElem?_eq_some_iff.1 hc).1
       simp [List.getElem?_append_left (show f + j < (l.map u8).length by simpa using hlt), hc]
      ·cases hc
     rw [List.length_map, hlk] at hl
     simp [Builtin.firstCells, hl]
 ·rw [e1] at hx hb
  by_cases h0 : l.length = 0
  ·have hl0 : l = [] := List.eq_nil_of_length_eq_zero h0
   subst hl0
   obtain rfl : f = 0 := by simpa using hf
   obtain ⟨ao', hz⟩ := K.p_sliceZ (P := Tryz.prog) (h := h) (K := []) (n := n) (E := E) (t := t) (dst := dst) (ty := ty) (ps := ps) (af := af) (g := none) (lo := some y) (hi := none) (k1 := .i64) (k2 := .i64) hu ((Fx.sz rfl) : szOf Tryz.prog 5 = some 1) hx hy trivial
   refine ⟨ao', 0, fun KK hK => ⟨fun ac w fa hsat => hz.run ac w fa ⟨hsat.imm, fun A hA => by cases hA⟩⟩, fun KK hK k hk => ?_⟩
   obtain rfl : k = 0 := by simpa using hk
   exact src_empty
  ·obtain ⟨_, b, o, rfl, hc⟩ := BV.cels hb (by omega)
   refine ⟨if l.length = f then some ⟨b, o, none⟩ else some ⟨b, o + f * 1, none⟩, l.length - f, fun KK hK => K.p_slice (lo := some y) (hi := none) (k1 := .i64) (k2 := .i64) (l := f) (u := l.length) hu ((Fx.sz rfl) : szOf Tryz.prog 5 = some 1) hx ⟨_, hy, rfl⟩ rfl hf (Nat.le_refl _) rfl, fun KK hK k hk => ?_⟩
   by_cases hcf : l.length = f
   ·obtain rfl : k = 0 := by omega
    exact src_empty
   ·rw [if_neg hcf]
    have e : l.map u8 = (l.take f).map u8 ++ (((l.drop f).take k).map u8 ++ ((l.drop f).drop k).map u8) := by
     rw [← List.map_append, ← List.map_append, List.take_append_drop, List.take_append_drop]
    rw [e] at hc
    have h2 := (Cels.append.1 (Cels.append.1 hc).2).1
    rw [List.length_map, List.length_take, Nat.min_eq_left hf] at h2
    rw [Nat.mul_one]
    exact K.src_cells (Cels.up h2) (by rw [List.length_map, List.length_take, List.length_drop]; omega) (fun u hu => by obtain ⟨c, _, rfl⟩ := List.mem_map.1 hu; rfl)
theorem StrSliceE {n : NN} {E : Env} {h : Base} {KK : List Asrt} {W : LM} {l : List UInt8} {t ty : TypeId} {ps : String} {af : Array Edge} {dst : Option Nat} {x y : Operand} {f : Nat} (hs : StrOk h W l) (hK : W.sA ∈ KK) (hu : Tryz.prog.underlying t = some (.slice 5)) (hx : lkO E x = some W.sv) (hy : lkO E y = some (.int .i64 f)) (hf : f ≤ l.length) :
  ∃ v, Pu Tryz.prog n E h KK ⟨dst, .slice t x (some y) none none, ty, ps, af, none⟩ v ∧ ∃ ao c, v = .slice ao (l.length - f) c ∧ ∀ KK, W.sA ∈ KK → ∀ k, k ≤ l.length - f → Src Tryz.prog h KK 1 (.slice ao k c) k (((l.drop f).take k).map u8) := by
 obtain ⟨ao, c, h1, h2⟩ := StrSlice (n := n) (E := E) (ty := ty) (ps := ps) (af := af) (dst := dst) hs hu hx hy hf
 exact ⟨_, h1 KK hK, ao, c, rfl, h2⟩
def partB (l : List UInt8) (i : Nat) : List UInt8 := (l.drop (i * 510)).take 510
def secB (l : List UInt8) (i : Nat) : Sec := padS (lebs (partB l i).length 2 ++ partB l i)
theorem part_le (l : List UInt8) (i : Nat) : (partB l i).length ≤ 510 := by unfold partB; rw [List.length_take]; omega
theorem sec_len (l : List UInt8) (i : Nat) : (secB l i).length = 512 := pad_len (by have := part_le l i; rw [List.length_append, lebs_length]; omega)
theorem part_min (l : List UInt8) (i : Nat) : (l.drop (min (i * 510) l.length)).take (min (l.length - min (i * 510) l.length) 510) = partB l i := by
 unfold partB
 by_cases h : i * 510 ≤ l.length
 ·have e : min (i * 510) l.length = i * 510 := by omega
  rw [e]
  by_cases h2 : l.length - i * 510 ≤ 510
  ·have e2 : min (l.length - i * 510) 510 = l.length - i * 510 := by omega
   rw [e2, List.take_of_length_le (by rw [List.length_drop]; omega), List.take_of_length_le (by rw [List.length_drop]; omega)]
  ·have e2 : min (l.length - i * 510) 510 = 510 := by omega
   rw [e2]
 ·have e : min (i * 510) l.length = l.length := by omega
  rw [e, List.drop_of_length_le (Nat.le_refl _), List.drop_of_length_le (by omega)]
  simp
theorem nul_three {k : Nat} (h : k ≤ 510) : nul 512 = nul 2 ++ nul k ++ nul (510 - k) := by
 unfold nul
 rw [List.replicate_append_replicate, List.replicate_append_replicate]
 congr 1
 omega
set_option maxHeartbeats 2000000 in
theorem Sector (h : Base) (p d : Nat) (W : LM) (L : Lg) (i : Nat) (hi : i ≤ 100000) (hsl : L.stream.length ≤ 100000000) (hs : StrOk h W L.stream) :
  Tr Tryz.prog 35 [pv p, .int .i64 i] h (lgA p d W L) (fun v h' H' => H' = lgA p d W L ∧ ∃ ao ca, v = .slice ao 512 ca ∧ BV h' (.slice ao 512 ca) (secB L.stream i)) := by
 have hs0 := hs
 obtain ⟨so, sc, hsv⟩ := hs.len
 refine K.enter Tryz.func35 rfl (Nat.le_of_ble_eq_true rfl) (fun F => ?_)
 unfold lgA lgV n64
 rw [hsv]
 simp only [List.cons_append, List.nil_append]
 (repeat' first | refine X.rq ?_ | refine X.rc ?_ ?_ <;> intro hc <;> try omega)
 refine K.l_alloc zrS rfl rfl (fun B5 => ?_)
 (repeat' first | refine X.rq ?_ | refine X.rc ?_ ?_ <;> intro hc <;> try omega)
 obtain ⟨f, hf⟩ : ∃ f, f = min (i * 510) L.stream.length := ⟨_, rfl⟩
 have hfl : f ≤ L.stream.length := by omega
 have hpm := part_min L.stream i
 rw [← hf] at hpm
 rw [show min ((i : Int) * 510) (L.stream.length : Int) = (f : Int) by omega]
 obtain ⟨k, hk⟩ : ∃ k, k = min (L.stream.length - f) 510 := ⟨_, rfl⟩
 have hk1 : k ≤ 510 := by omega
 have hpl : (partB L.stream i).length = k := by rw [← hpm, List.length_take, List.length_drop]; omega
 rw [← hk] at hpm
 rw [nul_three hk1]
 refine X.draw ([blk p 34 [dv d, .int .i64 L.m.n, .int .u64 (L.m.base : Int), .int .u64 (L.m.check : Int), .int .u32 L.m.kept, .bool L.m.wiped, .slice so L.stream.length sc, bufV W.ar L.starts.length W.kr, .int .u64 (L.durable : Int)], W.sA]) [] (.pu 0 (.pu 1 (.pu 2 (.pu 3 (.pu 5 (.st 4 (.st 6 (.on 7 (.pu 8 .nil))))))))) ?_ (hQ := by repeat (first | with_reducible refine K.NoPanic.then ?_ | with_reducible refine K.NoPanic.inBlock ?_ | with_reducible exact K.post_noPanic _ _ | exact K.post_noPanic _ _ | exact K.QN_noPanic | exact K.postS_noPanic | exact K.postX_noPanic | exact K.RPX_noPanic))
 refine K.d_pu rfl (fun _ _ => K.p_sliceFrom (l := 2) (Fx.und rfl) (Fx.sz rfl) rfl rfl (by decide)) rfl ?_
 refine K.d_pu rfl (fun _ _ => X.mv) rfl ?_
 refine K.d_pu rfl (fun _ _ => X.nc) rfl ?_
 refine K.d_pu rfl (fun _ _ => X.fa) rfl ?_
 refine K.d_pu rfl (fun _ _ => X.mv) rfl ?_
 refine K.d_st rfl X.ld rfl ?_
 refine K.d_stE rfl (StrSliceE hs0 (List.mem_cons_of_mem _ (List.mem_cons_self ..)) (Fx.und rfl) (by rw [hsv]; rfl) rfl hfl) rfl ?_
 rintro v6 ⟨ao, cc, rfl, hsrc⟩
 refine K.d_on rfl (fun KK hKK => ?_)
 refine K.l_copy (k := k) (xs := (partB L.stream i).map u8) (pre := nul 2) (cs := nul k) (post := nul (510 - k)) (Fx.und rfl) (Fx.sz rfl) rfl rfl (show Nat.min (L.stream.length - f) 510 = k from hk.symm) (hpm ▸ hsrc _ (by simp) k (by omega)) (by rw [List.length_map, hpl, nul_len]) (nul_len 2) (fun o ho => by rw [List.length_map, hpl] at ho; exact K.Free.zero _ o (by omega)) rfl ?_
 refine K.l_nil ?_
 refine X.onE hKK ?_
 refine K.d_pu rfl (fun _ _ => X.sg) rfl ?_
 refine K.d_nil ?_
 rw [show nul 2 = [.int .u8 0, .int .u8 0] from rfl]
 simp only [Go.K.nmz]
 (repeat' first | refine X.rq ?_ | refine X.rc ?_ ?_ <;> intro hc <;> try omega)
 refine X.sto ?_
 simp only [Go.K.nmz]
 (repeat' first | refine X.rq ?_ | refine X.rc ?_ ?_ <;> intro hc <;> try omega)
 refine X.sto ?_
 simp only [Go.K.nmz]
 (repeat' first | refine X.rq ?_ | refine X.rc ?_ ?_ <;> intro hc <;> try omega)
 have ec : ((((Value.int .u8 0 :: .int .u8 0 :: ((partB L.stream i).map u8 ++ nul (510 - k))).set (0 + Int.toNat 0 * 1) (.int .u8 (IntKind.u8.wrap (k : Int)))).set (0 + Int.toNat 1 * 1) (.int .u8 (IntKind.u8.wrap ((k : Int).fdiv (2 ^ min (Int.toNat 8) IntKind.i64.bits)))))) = (secB L.stream i).map u8 := by
  show Value.int .u8 (IntKind.u8.wrap (k : Int)) :: .int .u8 (IntKind.u8.wrap ((k : Int).fdiv (2 ^ min (Int.toNat 8) IntKind.i64.bits))) :: ((partB L.stream i).map u8 ++ nul (510 - k)) = _
  have e8 : (k : Int).fdiv (2 ^ min (Int.toNat 8) IntKind.i64.bits) = ((k / 256 : Nat) : Int) := by
   rw [show (2 : Int) ^ min (Int.toNat 8) IntKind.i64.bits = 256 from rfl, Int.fdiv_eq_ediv_of_nonneg _ (by decide)]
   omega
  have hll : (lebs k 2 ++ partB L.stream i).length = 2 + k := by rw [List.length_append, lebs_length, hpl]
  unfold secB padS
  rw [hpl, hll, e8, wn8, wn8, List.map_append, List.map_append, List.map_replicate, show 512 - (2 + k) = 510 - k by omega]
  have el : (lebs k 2).map u8 = [.int .u8 ((k % 256 : Nat) : Int), .int .u8 ((k / 256 % 256 : Nat) : Int)] := by
   simp [lebs, u8]
  rw [el]
  rfl
 rw [ec]
 refine K.s_pure (K.p_sliceAll (Fx.und rfl) (Fx.sz rfl) rfl) rfl ?_
 have ml := sec_len L.stream i
 refine K.WL.bufOf (m := 512) (s := 1) (by rw [List.length_map, ml]) (by unfold maxLen; omega) ?_
 refine K.WL.freezeBufN (l := secB L.stream i) ml.symm (fun h2 le2 hbv => ?_)
 (repeat' first | refine X.rq ?_ | refine X.rc ?_ ?_ <;> intro hc <;> try omega)
 exact K.done (vs := [.slice (some ⟨B5, 0, none⟩) 512 512]) (by first | exact Or.inl rfl | exact Or.inr rfl) rfl le2 (H' := [_, _, _]) rfl ⟨rfl, _, _, rfl, hbv⟩
end Go.Proofs.YtmcdaegaopfihaaGreat.Wl
