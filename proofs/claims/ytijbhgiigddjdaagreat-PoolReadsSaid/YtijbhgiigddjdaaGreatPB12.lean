/-
  Texts joined: Sa Sb. Conditions: each theorem's own.
-/
import Derived.Laws.Cover3
import Derived.Test.YtijbhgiigddjdaaGreatPB3
import Derived.Test.YtijbhgiigddjdaaGreatPB10
import Derived.Test.YtijbhgiigddjdaaGreatPB11
set_option linter.unusedVariables false
set_option linter.unusedSimpArgs false
section
namespace Go.K
open Go
set_option linter.unusedSectionVars false
section
variable {P : Program} {n : NN} {E : Env} {h : Base} {K : List Asrt} {dst : Option Nat} {t ty : TypeId} {ps : String} {af : Array Edge} {g : Option (Nat × Bool)} {x y : Operand} {v : Value}
theorem p_arrAt {e : TypeId} {m len cap : Nat} {ao : Option Addr} (hu : P.underlying t = some (.array m e)) (hx : lkO E x = some (.slice ao len cap)) (hl : m ≤ len) : Pu P n E h K ⟨dst, .sliceToArrayPointer t x, ty, ps, af, g⟩ (.pointer ao) :=
 ⟨fun a w fa _ => by simp [execOp, fa.eval hx, run_arrayAt w t e m ao len cap hu hl]⟩
theorem p_sliceAll {e : TypeId} {m s b o : Nat} (hu : P.underlying t = some (.array m e)) (hs : szOf P e = some s) (hx : lkO E x = some (.pointer (some ⟨b, o, none⟩))) : Pu P n E h K ⟨dst, .slice t x none none none, ty, ps, af, g⟩ (.slice (some ⟨b, o, none⟩) m m) :=
 ⟨fun a w fa _ => by simp [execOp, fa.eval hx, Instr.sliceAt, Instr.sureAddr, run_underlying hu, Instr.sliceBounds, run_sizeOf hs, add_none]⟩
theorem p_sliceFrom {e : TypeId} {m s b o l : Nat} {k : IntKind} (hu : P.underlying t = some (.array m e)) (hs : szOf P e = some s) (hx : lkO E x = some (.pointer (some ⟨b, o, none⟩))) (hy : lkO E y = some (.int k l)) (hl : l < m) : Pu P n E h K ⟨dst, .slice t x (some y) none none, ty, ps, af, g⟩ (.slice (some ⟨b, o + l * s, none⟩) (m - l) (m - l)) :=
 ⟨fun a w fa _ => by
  have hb : ∀ c : BoundsCode, (Instr.sliceBound (.int k l) m c).run P w = .ok l w := by simp [Instr.sliceBound, asIntOf]; omega
  simp [execOp, fa.eval hx, fa.eval hy, Instr.sliceAt, Instr.sureAddr, run_underlying hu, Instr.sliceBounds, run_sizeOf hs, add_none, hb]
  intro hml
  exact absurd hml (by omega)⟩
variable {Q : Exit → Act → World → Prop} {H : List Asrt} {ops : Array Oper} {rest : List Oper}
theorem zero_cells (zs : List Value) (m : Nat) : (Builtin.zeroCells zs.toArray m).toList = (List.replicate m zs).flatten := by
 simp only [Builtin.zeroCells, Array.toList_map, Array.toList_range, List.size_toArray]
 induction m with
 | zero => simp
 | succ m ih =>
  rw [Nat.succ_mul, List.range_add, List.map_append, ih, List.replicate_succ', List.flatten_append, List.flatten_singleton]
  congr 1
  rw [List.map_map]
  refine List.ext_getElem? fun i => ?_
  rw [List.getElem?_map]
  by_cases hi : i < zs.length
  ·rw [List.getElem?_range hi]
   have : (m * zs.length + i) % zs.length = i := by rw [Nat.add_comm, Nat.add_mul_mod_self_right, Nat.mod_eq_of_lt hi]
   simp [hi, this]
  ·rw [List.getElem?_eq_none (by simpa using hi), List.getElem?_eq_none (by omega)]; rfl
theorem l_clearR {e b o m c : Nat} {T : TypeId} {fz : Nat × Nat} {z : Value} {zs pre cs post : List Value} (hu : P.underlying t = some (.slice e)) (hz : zrOf P e = some z) (hzs : z.cells = zs.toArray) (h1 : ones zs = true) (hx : lkO E x = some (.slice (some ⟨b, o, none⟩) m c))
  (h0 : 0 < m) (hl : m * zs.length = cs.length) (ho : pre.length = o) (hf : Free fz (o + m * zs.length)) (hk : WL P n ops Q rest E h (blkF b T (pre ++ (List.replicate m zs).flatten ++ post) fz :: H)) :
  WL P n ops Q (⟨none, .call ⟨.builtin .clear, #[x], #[t]⟩, ty, ps, af, none⟩ :: rest) E h (blkF b T (pre ++ cs ++ post) fz :: H) :=
 ⟨fun ac w fa ok => wpList_plain rfl fun KK hK => by
  subst ho
  obtain ⟨m, rfl⟩ : ∃ k, m = k + 1 := ⟨m - 1, by omega⟩
  have hle : (List.replicate (m + 1) zs).flatten.length = (m + 1) * zs.length := by rw [K.flatten_len (s := zs.length) _ fun e he => by rw [(List.mem_replicate.1 he).2], List.length_replicate]
  obtain ⟨w', e1, ok'⟩ := Ok.storesF (P := P) (List.replicate (m + 1) zs).flatten pre cs post w (by rw [hle]; exact hl) (fun u hu => by
   obtain ⟨e, he, hue⟩ := List.mem_flatten.1 hu
   rw [(List.mem_replicate.1 he).2] at hue
   exact List.all_eq_true.1 h1 u hue) (by rw [hle]; exact hf) ok
  have e2 : (storeCells ⟨b, pre.length, none⟩ (List.replicate (m + 1) zs).flatten).run P w = .ok () w' := by rw [storeCells_at, Nat.add_zero]; exact e1
  have hzc : (Builtin.zeroCells z.cells (m + 1)).toList = (List.replicate (m + 1) zs).flatten := by rw [hzs, zero_cells]
  unfold Oper.wp
  have : (execOp ac.eval ⟨none, .call ⟨.builtin .clear, #[x], #[t]⟩, ty, ps, af, none⟩).run P w = .ok (.value (.tuple #[])) w' := by
   rw [show (#[x] : Array Operand) = [x].toArray from rfl, run_builtin (vals := [.slice (some ⟨b, pre.length, none⟩) (m + 1) c]) fa (by simp [evArgs, hx])]
   simp [builtin, Builtin.clear_, run_underlying hu, run_zero hz, hzc, e2]
  rw [this, Oper.upon_value]
  exact hK _ _ (hk.run _ _ fa ok')⟩
theorem WL.freezeBufN {L : List Oper} {T : TypeId} {a : Option Nat} {m cap : Nat} {l : List UInt8} (hm : m = l.length) (hk : ∀ h', h.le h' → BV h' (bufV a m cap) l → WL P n ops Q L E h' H) : WL P n ops Q L E h (bufA T 1 a m cap (l.map u8) :: H) := by
 subst hm
 exact WL.freezeBuf hk
theorem l_clear0 {e : TypeId} {ao : Option Addr} {c : Nat} (hu : P.underlying t = some (.slice e)) (hx : lkO E x = some (.slice ao 0 c)) (hk : WL P n ops Q rest E h H) : WL P n ops Q (⟨none, .call ⟨.builtin .clear, #[x], #[t]⟩, ty, ps, af, none⟩ :: rest) E h H :=
 ⟨fun ac w fa ok => wpList_plain rfl fun KK hK => by
  unfold Oper.wp
  have : (execOp ac.eval ⟨none, .call ⟨.builtin .clear, #[x], #[t]⟩, ty, ps, af, none⟩).run P w = .ok (.value (.tuple #[])) w := by
   rw [show (#[x] : Array Operand) = [x].toArray from rfl, run_builtin (vals := [.slice ao 0 c]) fa (by simp [evArgs, hx])]
   cases ao <;> simp [builtin, Builtin.clear_, run_underlying hu]
  rw [this, Oper.upon_value]
  exact hK _ _ (hk.run _ _ fa ok)⟩
end
end Go.K
namespace Go.Proofs.YtijbhgiigddjdaaGreat.Wl
open Go Go.K Go.Proofs Go.Proofs.YtijbhgiigddjdaaGreat
set_option maxRecDepth 10000

def nul (m : Nat) : List Value := List.replicate m (.int .u8 0)
theorem zrS : zrOf Tryz.prog 99 = some (.agg (nul 512).toArray) := by kernel_rfl
theorem zrL : zrOf Tryz.prog 101 = some (.agg (.int .i64 0 :: nul 512).toArray) := by kernel_rfl
theorem plL : placesOf Tryz.prog 101 = some [(0, 1), (1, 512)] := by kernel_rfl
abbrev Sec := List UInt8
abbrev Loo := Nat × Sec
structure Dk where
 kept : List Sec
 cache : List Loo
 trip : Int
 dark : Bool
structure DM where
 bk : Nat
 ac : Option Nat
 cap : Nat
 c1 : Int
 c2 : Int
 c3 : Int
def seB (s : Sec) : List Value := s.map u8
def loB (l : Loo) : List Value := .int .i64 l.1 :: seB l.2
def dkV (M : DM) (D : Dk) : List Value := [bufV (some M.bk) D.kept.length D.kept.length, bufV M.ac D.cache.length M.cap, .int .i64 D.trip, .bool D.dark, .int .i64 M.c1, .int .i64 M.c2, .int .i64 M.c3]
def keptA (M : DM) (D : Dk) : Asrt := bufA 99 512 (some M.bk) D.kept.length D.kept.length (D.kept.map seB).flatten
def cacheA (M : DM) (D : Dk) : Asrt := bufA 101 513 M.ac D.cache.length M.cap (D.cache.map loB).flatten
def dkA (d : Nat) (M : DM) (D : Dk) : List Asrt := [blk d 98 (dkV M D), keptA M D, cacheA M D]
structure DkOk (D : Dk) : Prop where
 secs : ∀ s ∈ D.kept, s.length = 512
 los : ∀ l ∈ D.cache, l.1 < D.kept.length ∧ l.2.length = 512
 pos : 0 < D.kept.length
 few : D.kept.length ≤ 8192
 trip : -1 ≤ D.trip ∧ D.trip ≤ 9223372036854775807
 room : D.cache.length ≤ 1000000000
def goesQ (D : Dk) : Bool × Dk := if D.dark then (false, D) else if D.trip = 0 then (false, { D with dark := true, trip := -1 }) else if 0 < D.trip then (true, { D with trip := D.trip - 1 }) else (true, D)
theorem goes_kept (D : Dk) : (goesQ D).2.kept = D.kept ∧ (goesQ D).2.cache = D.cache := by
 unfold goesQ
 split
 ·exact ⟨rfl, rfl⟩
 ·split
  ·exact ⟨rfl, rfl⟩
  ·split <;> exact ⟨rfl, rfl⟩
theorem DkOk.goes {D : Dk} (h : DkOk D) : DkOk (goesQ D).2 := by
 obtain ⟨e1, e2⟩ := goes_kept D
 refine ⟨by rw [e1]; exact h.secs, by rw [e1, e2]; exact h.los, by rw [e1]; exact h.pos, by rw [e1]; exact h.few, ?_, by rw [e2]; exact h.room⟩
 have ht := h.trip
 unfold goesQ
 split
 ·exact ht
 ·split
  ·exact ⟨Int.le_refl _, (by decide : (-1 : Int) ≤ 9223372036854775807)⟩
  ·split
   ·constructor <;> dsimp only <;> omega
   ·exact ht
set_option maxHeartbeats 1000000 in
theorem Goes (h : Base) (d : Nat) (M : DM) (D : Dk) (hk : DkOk D) : Tr Tryz.prog 33 [.pointer (some ⟨d, 0, none⟩)] h (dkA d M D) (fun v h' H' => h' = h ∧ v = .bool (goesQ D).1 ∧ H' = dkA d M (goesQ D).2) := by
 have hp := hk.pos
 have hf := hk.few
 have ht := hk.trip
 obtain ⟨kept, cache, trip, dark⟩ := D
 dsimp only at hp hf ht
 refine K.enter Tryz.func33 rfl (Nat.le_of_ble_eq_true rfl) (fun F => ?_)
 unfold dkA dkV
 simp only [List.cons_append, List.nil_append]
 cases dark with
 | true =>
  (repeat' first | refine X.rq ?_ | refine X.rc ?_ ?_ <;> intro hc <;> try omega)
  all_goals try (exfalso; omega)
  refine K.dl rfl (H' := [_, _, _]) rfl ⟨rfl, rfl, rfl⟩
 | false =>
  by_cases h0 : trip = 0
  ·have eg : goesQ ⟨kept, cache, trip, false⟩ = (false, ⟨kept, cache, -1, true⟩) := by unfold goesQ; simp [h0]
   rw [eg]
   subst h0
   (repeat' first | refine X.rq ?_ | refine X.rc ?_ ?_ <;> intro hc <;> try omega)
   all_goals try (exfalso; omega)
   refine X.sto ?_
   simp only [Go.K.nmz]
   (repeat' first | refine X.rq ?_ | refine X.rc ?_ ?_ <;> intro hc <;> try omega)
   all_goals try (exfalso; omega)
   refine X.sto ?_
   simp only [Go.K.nmz]
   (repeat' first | refine X.rq ?_ | refine X.rc ?_ ?_ <;> intro hc <;> try omega)
   refine K.dl rfl (H' := [_, _, _]) rfl ⟨rfl, rfl, rfl⟩
  ·by_cases h1 : 0 < trip
   ·have eg : goesQ ⟨kept, cache, trip, false⟩ = (true, ⟨kept, cache, trip - 1, false⟩) := by unfold goesQ; simp [h0, h1]
    rw [eg]
    (repeat' first | refine X.rq ?_ | refine X.rc ?_ ?_ <;> intro hc <;> try omega)
    all_goals try (exfalso; omega)
    refine X.sto ?_
    simp only [Go.K.nmz]
    (repeat' first | refine X.rq ?_ | refine X.rc ?_ ?_ <;> intro hc <;> try omega)
    refine K.dl rfl (H' := [_, _, _]) rfl ⟨rfl, rfl, rfl⟩
   ·have eg : goesQ ⟨kept, cache, trip, false⟩ = (true, ⟨kept, cache, trip, false⟩) := by unfold goesQ; simp [h0, h1]
    rw [eg]
    (repeat' first | refine X.rq ?_ | refine X.rc ?_ ?_ <;> intro hc <;> try omega)
    all_goals try (exfalso; omega)
    refine K.dl rfl (H' := [_, _, _]) rfl ⟨rfl, rfl, rfl⟩
abbrev dv (d : Nat) : Value := .pointer (some ⟨d, 0, none⟩)
theorem Sectors (h : Base) (d : Nat) (M : DM) (D : Dk) : TrV Tryz.prog 32 [dv d] h (dkA d M D) (.int .i64 D.kept.length) (dkA d M D) := by
 refine K.enter Tryz.func32 rfl (Nat.le_of_ble_eq_true rfl) (fun F => ?_)
 unfold dkA dkV
 simp only [List.cons_append, List.nil_append]
 (repeat' first | refine X.rq ?_ | refine X.rc ?_ ?_ <;> intro hc <;> try omega)
 refine K.dl rfl (H' := [_, _, _]) rfl ⟨rfl, rfl, rfl⟩
theorem Pending (h : Base) (d : Nat) (M : DM) (D : Dk) : TrV Tryz.prog 98 [dv d] h (dkA d M D) (.int .i64 D.cache.length) (dkA d M D) := by
 refine K.enter Tryz.func98 rfl (Nat.le_of_ble_eq_true rfl) (fun F => ?_)
 unfold dkA dkV
 simp only [List.cons_append, List.nil_append]
 (repeat' first | refine X.rq ?_ | refine X.rc ?_ ?_ <;> intro hc <;> try omega)
 refine K.dl rfl (H' := [_, _, _]) rfl ⟨rfl, rfl, rfl⟩
theorem Empty (h : Base) (d : Nat) (M : DM) (D : Dk) (hlo : ∀ l ∈ D.cache, l.2.length = 512) : Tr Tryz.prog 66 [dv d] h (dkA d M D) (fun v h' H' => h' = h ∧ v = .tuple #[] ∧ H' = dkA d M { D with cache := [] }) := by
 obtain ⟨kept, cache, trip, dark⟩ := D
 obtain ⟨bk, ac, cap, c1, c2, c3⟩ := M
 dsimp only at hlo
 refine K.enter Tryz.func66 rfl (Nat.le_of_ble_eq_true rfl) (fun F => ?_)
 unfold dkA dkV cacheA
 simp only [List.cons_append, List.nil_append]
 refine K.WC.perm (K.pp [2] rfl) ?_
 simp only [Go.K.nmz]
 refine K.oc_buf (fun e1 e2 e3 e4 => ?_) ?_
 ·subst e1 e3
  obtain rfl := List.eq_nil_of_length_eq_zero e2
  (repeat' first | refine X.rq ?_ | refine X.rc ?_ ?_ <;> intro hc <;> try omega)
  refine K.l_clear0 (Fx.und rfl) rfl ?_
  generalize hsv : bufV none ([] : List Loo).length 0 = sv
  (repeat' first | refine X.rq ?_ | refine X.rc ?_ ?_ <;> intro hc <;> try omega)
  subst hsv
  refine K.s_pure (K.p_slice0 (lo := none) (hi := some (.const (.int .i64 0))) (k1 := .i64) (k2 := .i64) (Fx.und rfl) (Fx.sz rfl) rfl trivial rfl) rfl ?_
  (repeat' first | refine X.rq ?_ | refine X.rc ?_ ?_ <;> intro hc <;> try omega)
  refine X.sto ?_
  simp only [Go.K.nmz]
  (repeat' first | refine X.rq ?_ | refine X.rc ?_ ?_ <;> intro hc <;> try omega)
  refine K.AT.nilBuf 101 513 ?_
  refine K.AT.perm (K.pp [1, 1] rfl) ?_
  refine K.dl rfl (H' := [_, _, _]) rfl ⟨rfl, rfl, rfl⟩
 ·rintro b sp fz rfl g2 g3 g4 g5 g6
  have hll : (cache.map loB).flatten.length = cache.length * 513 := g2
  by_cases h0 : cache = []
  ·subst h0
   (repeat' first | refine X.rq ?_ | refine X.rc ?_ ?_ <;> intro hc <;> try omega)
   refine K.l_clear0 (Fx.und rfl) rfl ?_
   (repeat' first | refine X.rq ?_ | refine X.rc ?_ ?_ <;> intro hc <;> try omega)
   refine K.s_pure (K.p_slice (ao := some ⟨b, 0, none⟩) (lo := none) (hi := some (.const (.int .i64 0))) (k1 := .i64) (k2 := .i64) (l := 0) (u := 0) (Fx.und rfl) (Fx.sz rfl) rfl rfl ⟨0, rfl, rfl⟩ (Nat.le_refl _) (Nat.zero_le _) (by split <;> simp)) rfl ?_
   (repeat' first | refine X.rq ?_ | refine X.rc ?_ ?_ <;> intro hc <;> try omega)
   refine X.sto ?_
   simp only [Go.K.nmz]
   (repeat' first | refine X.rq ?_ | refine X.rc ?_ ?_ <;> intro hc <;> try omega)
   refine K.AT.shut (m := 0) (cap := cap) (cs := []) (sp := (List.map loB []).flatten ++ sp) rfl g3 (Nat.zero_le _) g5 g6 ?_
   refine K.AT.perm (K.pp [1, 1] rfl) ?_
   refine K.dl rfl (H' := [_, _, _]) rfl ⟨rfl, rfl, rfl⟩
  ·have h1 : 0 < cache.length := List.length_pos_iff.2 h0
   (repeat' first | refine X.rq ?_ | refine X.rc ?_ ?_ <;> intro hc <;> try omega)
   refine K.l_clearR (zs := .int .i64 0 :: nul 512) (pre := []) (cs := (cache.map loB).flatten) (post := sp) (Fx.und rfl) zrL rfl rfl rfl h1 (by rw [hll]; rfl) rfl (fun o ho => g6 o (by change o < 0 + cache.length * 513 at ho; omega)) ?_
   (repeat' first | refine X.rq ?_ | refine X.rc ?_ ?_ <;> intro hc <;> try omega)
   refine K.s_pure (K.p_slice (ao := some ⟨b, 0, none⟩) (lo := none) (hi := some (.const (.int .i64 0))) (k1 := .i64) (k2 := .i64) (l := 0) (u := 0) (Fx.und rfl) (Fx.sz rfl) rfl rfl ⟨0, rfl, rfl⟩ (Nat.le_refl _) (Nat.zero_le _) (by split <;> simp)) rfl ?_
   (repeat' first | refine X.rq ?_ | refine X.rc ?_ ?_ <;> intro hc <;> try omega)
   refine X.sto ?_
   simp only [Go.K.nmz]
   (repeat' first | refine X.rq ?_ | refine X.rc ?_ ?_ <;> intro hc <;> try omega)
   refine K.AT.shut (m := 0) (cap := cap) (cs := []) (sp := [] ++ (List.replicate cache.length (.int .i64 0 :: nul 512)).flatten ++ sp) rfl (by rw [← g3]; simp [hll, nul]) (Nat.zero_le _) g5 g6 ?_
   refine K.AT.perm (K.pp [1, 1] rfl) ?_
   refine K.dl rfl (H' := [_, _, _]) rfl ⟨rfl, rfl, rfl⟩
end Go.Proofs.YtijbhgiigddjdaaGreat.Wl
end

section
namespace Go.Proofs.YtijbhgiigddjdaaGreat.Wl
open Go Go.K Go.Proofs Go.Proofs.YtijbhgiigddjdaaGreat
set_option maxRecDepth 10000

theorem rep_flat (zs : List Value) : ∀ (m i : Nat), i < m * zs.length → (List.replicate m zs).flatten[i]? = zs[i % zs.length]?
 | 0, i, hi => by simp at hi
 | m + 1, i, hi => by
  rw [List.replicate_succ, List.flatten_cons]
  by_cases h : i < zs.length
  ·rw [List.getElem?_append_left h, Nat.mod_eq_of_lt h]
  ·rw [List.getElem?_append_right (by omega), rep_flat zs m (i - zs.length) (by rw [Nat.add_mul] at hi; omega)]
   congr 1
   rw [← Nat.mod_eq_sub_mod (by omega)]
theorem made_rows (zs : List Value) (m c : Nat) (hm : m ≤ c) (hz : 0 < zs.length) : (madeCells zs.toArray (c * zs.length)).toList.take (m * zs.length) = (List.replicate m zs).flatten := by
 have hmc : m * zs.length ≤ c * zs.length := Nat.mul_le_mul_right _ hm
 have hfl : (List.replicate m zs).flatten.length = m * zs.length := by rw [K.flatten_len (s := zs.length) _ fun e he => by rw [List.eq_of_mem_replicate he], List.length_replicate]
 refine List.ext_getElem? fun i => ?_
 by_cases hi : i < m * zs.length
 ·rw [List.getElem?_take, if_pos hi, rep_flat zs m i hi]
  simp only [madeCells, List.size_toArray, Array.toList_map, Array.toList_range, List.getElem?_map]
  rw [List.getElem?_range (by omega)]
  have hlt := Nat.mod_lt i hz
  simp [hlt]
 ·have hml : (madeCells zs.toArray (c * zs.length)).toList.length = c * zs.length := (Array.length_toList ..).trans (size_madeCells _ _)
  rw [List.getElem?_eq_none (by rw [List.length_take, hml]; omega), List.getElem?_eq_none (by omega)]

def zs : Sec := List.replicate 512 0
theorem seB_zs : seB zs = nul 512 := by unfold seB zs nul; rw [List.map_replicate]; rfl
theorem seB_len (s : Sec) : (seB s).length = s.length := List.length_map ..
theorem seB_ones (s : Sec) : ones (seB s) = true := List.all_eq_true.2 fun u hu => by
 obtain ⟨c, _, rfl⟩ := List.mem_map.1 hu
 rfl
theorem loB_len (l : Loo) : (loB l).length = l.2.length + 1 := by unfold loB; rw [List.length_cons, seB_len]
theorem loB_ones (l : Loo) : ones (loB l) = true := by
 have := seB_ones l.2
 unfold ones at this ⊢
 unfold loB
 rw [List.all_cons, this]
 rfl
def newDk (n : Nat) : Dk := ⟨List.replicate n zs, [], -1, false⟩
theorem nul_len (m : Nat) : (nul m).length = m := List.length_replicate
theorem made_sec (k : Nat) : (madeCells (Value.agg (nul 512).toArray).cells (k * 512)).toList.take (k * 512) = (List.replicate k (nul 512)).flatten := by
 have := made_rows (nul 512) k k (Nat.le_refl _) (by rw [nul_len]; decide)
 rwa [nul_len] at this
theorem newOk {n : Nat} (h : 0 < n) (h2 : n ≤ 8192) : DkOk (newDk n) := by
 have e : (newDk n).kept.length = n := List.length_replicate
 refine ⟨fun s hs => ?_, fun l hl => ?_, by rw [e]; exact h, by rw [e]; exact h2, ⟨Int.le_refl _, (by decide : (-1 : Int) ≤ 9223372036854775807)⟩, Nat.zero_le _⟩
 ·rw [(List.mem_replicate.1 hs).2]; exact List.length_replicate
 ·cases hl
set_option maxHeartbeats 1000000 in
theorem New (h : Base) (n : Int) (hn1 : -9223372036854775808 ≤ n) (hn2 : n ≤ 9223372036854775807) : Tr Tryz.prog 19 [.int .i64 n] h [] (fun v h' H' => h' = h ∧ ((1 ≤ n ∧ n ≤ 8192 ∧ ∃ d M, v = .tuple #[dv d, .int .i64 0] ∧ H' = dkA d M (newDk n.toNat)) ∨ (¬ (1 ≤ n ∧ n ≤ 8192) ∧ v = .tuple #[.pointer none, .int .i64 1] ∧ H' = []))) := by
 refine K.enter Tryz.func19 rfl (Nat.le_of_ble_eq_true rfl) (fun F => ?_)
 by_cases hn : 1 ≤ n ∧ n ≤ 8192
 ·obtain ⟨k, rfl⟩ : ∃ k : Nat, n = (k : Int) := ⟨n.toNat, by omega⟩
  (repeat' first | refine X.rq ?_ | refine X.rc ?_ ?_ <;> intro hc <;> try omega)
  all_goals try (exfalso; omega)
  refine K.l_makeSlice (m := k) (c := k) (Fx.und rfl) (Fx.sz rfl) zrS rfl (Fx.byt rfl) rfl rfl (Nat.le_refl _) (by omega) (by unfold maxLen; omega) rfl (fun Bk => ?_)
  rw [made_sec]
  refine K.WL.nilBuf 101 513 ?_
  (repeat' first | refine X.rq ?_ | refine X.rc ?_ ?_ <;> intro hc <;> try omega)
  refine K.l_box rfl rfl rfl (fun d => ?_)
  (repeat' first | refine X.rq ?_ | refine X.rc ?_ ?_ <;> intro hc <;> try omega)
  refine K.AT.perm (K.pp [0, 1] rfl) ?_
  have e1 : (List.replicate k (nul 512)) = (newDk k).kept.map seB := by
   show _ = (List.replicate k zs).map seB
   rw [List.map_replicate, seB_zs]
  have e2 : (newDk k).kept.length = k := List.length_replicate
  refine K.dl rfl (H' := [_, _, _]) rfl ⟨rfl, .inl ⟨by omega, by omega, d, ⟨Bk, none, 0, 0, 0, 0⟩, rfl, ?_⟩⟩
  rw [Int.toNat_natCast]
  unfold dkA dkV keptA cacheA
  rw [e2, ← e1]
  rfl
 ·(repeat' first | refine X.rq ?_ | refine X.rc ?_ ?_ <;> intro hc <;> try omega)
  all_goals try (exfalso; omega)
  all_goals refine K.dl rfl (H' := []) rfl ⟨rfl, .inr ⟨hn, rfl, rfl⟩⟩
/-! ### Read -/
def viewQ (kept : List Sec) (cache : List Loo) (at_ : Nat) : Sec := cache.foldl (fun x l => if l.1 = at_ then l.2 else x) (kept.getD at_ [])
def readQ (D : Dk) (at_ : Int) : Except Int Sec × Dk := if at_ < 0 ∨ (D.kept.length : Int) ≤ at_ then (.error 2, D) else if (goesQ D).1 then (.ok (viewQ D.kept D.cache at_.toNat), (goesQ D).2) else (.error 8, (goesQ D).2)
def ReadR (h' : Base) (r : Except Int Sec) (v : Value) : Prop := match r with
 | .ok b => ∃ ao ca, v = .tuple #[.slice ao 512 ca, .int .i64 0] ∧ BV h' (.slice ao 512 ca) b
 | .error e => v = .tuple #[.slice none 0 0, .int .i64 e]
theorem view_snoc (kept : List Sec) (cache : List Loo) (l : Loo) (at_ : Nat) : viewQ kept (cache ++ [l]) at_ = if l.1 = at_ then l.2 else viewQ kept cache at_ := by
 unfold viewQ
 rw [List.foldl_append]
 rfl
theorem view_len {kept : List Sec} {at_ : Nat} (hk : ∀ s ∈ kept, s.length = 512) (ha : at_ < kept.length) : ∀ (cache : List Loo), (∀ l ∈ cache, l.2.length = 512) → (viewQ kept cache at_).length = 512 := by
 have h0 : (kept.getD at_ []).length = 512 := by
  rw [List.getD_eq_getElem?_getD, List.getElem?_eq_getElem ha]
  exact hk _ (List.getElem_mem ha)
 have key : ∀ (cache : List Loo) (x : Sec), x.length = 512 → (∀ l ∈ cache, l.2.length = 512) → (cache.foldl (fun x l => if l.1 = at_ then l.2 else x) x).length = 512 := by
  intro cache
  induction cache with
  | nil => intro x hx _; exact hx
  | cons l r ih =>
   intro x hx hc
   rw [List.foldl_cons]
   refine ih _ ?_ fun l hl => hc l (List.mem_cons_of_mem _ hl)
   split
   ·exact hc l (List.mem_cons_self ..)
   ·exact hx
 exact fun cache hc => key cache _ h0 hc
theorem lo_513 {D : Dk} (hk : DkOk D) : ∀ e ∈ D.cache.map loB, e.length = 513 := fun e he => by
 obtain ⟨l, hl, rfl⟩ := List.mem_map.1 he
 rw [loB_len, (hk.los l hl).2]
theorem se_512 {D : Dk} (hk : DkOk D) : ∀ e ∈ D.kept.map seB, e.length = 512 := fun e he => by
 obtain ⟨l, hl, rfl⟩ := List.mem_map.1 he
 rw [seB_len, hk.secs l hl]
def readC (M : DM) (r : Except Int Sec) : DM := match r with
 | .ok _ => { M with c1 := IntKind.i64.wrap (M.c1 + 1) }
 | .error _ => M
set_option maxHeartbeats 2000000 in
theorem Read1 (h : Base) (d : Nat) (M : DM) (D : Dk) (at_ : Int) (hk : DkOk D) (ha1 : -9223372036854775808 ≤ at_) (ha2 : at_ ≤ 9223372036854775807) :
  Tr Tryz.prog 36 [dv d, .int .i64 at_] h (dkA d M D) (fun v h' H' => H' = dkA d (readC M (readQ D at_).1) (readQ D at_).2 ∧ ReadR h' (readQ D at_).1 v) := by
 have hp := hk.pos
 have hf := hk.few
 have hgo := Goes h d M D hk
 have hse := Sectors h d M D
 refine K.enter Tryz.func36 rfl (Nat.le_of_ble_eq_true rfl) (fun F => ?_)
 by_cases hr : at_ < 0 ∨ (D.kept.length : Int) ≤ at_
 ·have er : readQ D at_ = (.error 2, D) := by unfold readQ; rw [if_pos hr]
  rw [er]
  by_cases h0 : at_ < 0
  ·(repeat' first | refine X.rq ?_ | refine X.rc ?_ ?_ <;> intro hc <;> try omega)
   all_goals try (exfalso; omega)
   exact K.dn (vs := [.slice none 0 0, .int .i64 2]) rfl (K.Base.le.refl _) (H' := dkA d M D) rfl ⟨rfl, rfl⟩
  ·(repeat' first | refine X.rq ?_ | refine X.rc ?_ ?_ <;> intro hc <;> try omega)
   all_goals try (exfalso; omega)
   refine K.l_callV (Fx.cal rfl) rfl hse (K.pp [0, 0, 0] rfl) rfl rfl ?_
   (repeat' first | refine X.rq ?_ | refine X.rc ?_ ?_ <;> intro hc <;> try omega)
   all_goals try (exfalso; omega)
   exact K.dn (vs := [.slice none 0 0, .int .i64 2]) rfl (K.Base.le.refl _) (H' := dkA d M D) rfl ⟨rfl, rfl⟩
 obtain ⟨a, rfl⟩ : ∃ a : Nat, at_ = (a : Int) := ⟨at_.toNat, by omega⟩
 have hal : a < D.kept.length := by omega
 (repeat' first | refine X.rq ?_ | refine X.rc ?_ ?_ <;> intro hc <;> try omega)
 all_goals try (exfalso; omega)
 refine K.l_callV (Fx.cal rfl) rfl hse (K.pp [0, 0, 0] rfl) rfl rfl ?_
 (repeat' first | refine X.rq ?_ | refine X.rc ?_ ?_ <;> intro hc <;> try omega)
 all_goals try (exfalso; omega)
 refine K.l_call (Fx.cal rfl) rfl hgo (K.pp [0, 0, 0] rfl) rfl ?_
 rintro u h1 H' - ⟨e, rfl, rfl⟩
 obtain rfl := e.symm
 have hk1 := hk.goes
 obtain ⟨ek, ec⟩ := goes_kept D
 cases hg : (goesQ D).1 with
 | false =>
  have er : readQ D (a : Int) = (.error 8, (goesQ D).2) := by unfold readQ; rw [if_neg hr, hg]; rfl
  rw [er]
  (repeat' first | refine X.rq ?_ | refine X.rc ?_ ?_ <;> intro hc <;> try omega)
  exact K.dn (vs := [.slice none 0 0, .int .i64 8]) rfl (K.Base.le.refl _) (H' := dkA d M (goesQ D).2) rfl ⟨rfl, rfl⟩
 | true =>
  have er : readQ D (a : Int) = (.ok (viewQ D.kept D.cache a), (goesQ D).2) := by unfold readQ; rw [if_neg hr, hg, Int.toNat_natCast]; rfl
  rw [er, ← ek, ← ec]
  rw [← ek] at hal
  clear hgo hse hp hf hr er ek ec hk hg
  generalize (goesQ D).2 = D1 at *
  have hlo := lo_513 hk1
  have hsz := se_512 hk1
  have hroom := hk1.room
  have hf := hk1.few
  have hvl := view_len hk1.secs hal
  have hlos := hk1.los
  obtain ⟨kept, cache, trip, dark⟩ := D1
  obtain ⟨bk, ac, cap, c1, c2, c3⟩ := M
  dsimp only at hal hlo hsz hroom hf hvl hlos ⊢
  unfold dkA dkV keptA cacheA
  simp only [List.cons_append, List.nil_append]
  (repeat' first | refine X.rq ?_ | refine X.rc ?_ ?_ <;> intro hc <;> try omega)
  refine X.sto ?_
  simp only [Go.K.nmz]
  (repeat' first | refine X.rq ?_ | refine X.rc ?_ ?_ <;> intro hc <;> try omega)
  obtain ⟨s0, hs0⟩ : ∃ s0, kept[a]? = some s0 := ⟨_, List.getElem?_eq_getElem hal⟩
  have hsa : (kept.map seB)[a]? = some (seB s0) := by rw [List.getElem?_map, hs0]; rfl
  have hs5 : (seB s0).length = 512 := hsz _ (List.mem_of_getElem? hsa)
  have hv0 : viewQ kept [] a = s0 := by unfold viewQ; rw [List.foldl_nil, List.getD_eq_getElem?_getD, hs0]; rfl
  rw [show 0 + (a : Int).toNat * 512 = a * 512 by omega]
  refine K.s_pure (K.p_loadM (Fx.agg rfl) rfl (K.cels_rowZ 1 rfl hsz hsa) (Fx.sz rfl) hs5) rfl ?_
  refine K.l_alloc zrS rfl rfl (fun B6 => ?_)
  refine K.l_storeW_at 0 rfl (by rw [hs5]; exact (Fx.sz rfl)) rfl rfl (seB_ones _) (by rw [hs5, nul_len]) rfl ?_
  simp only [Go.K.nmz]
  (repeat' first | refine X.rq ?_ | refine X.rc ?_ ?_ <;> intro hc <;> try omega)
  refine K.c_loop (σ := Nat) (fun j => [(0, dv d), (1, .int .i64 a), (6, .pointer (some ⟨B6, 0, none⟩)), (41, bufV ac cache.length cap), (42, .int .i64 cache.length), (43, .int .i64 j)]) (fun _ => h)
   (fun j => blk B6 99 (seB (viewQ kept (cache.take j) a)) :: blk d 98 [bufV (some bk) kept.length kept.length, bufV ac cache.length cap, .int .i64 trip, .bool dark, .int .i64 (IntKind.i64.wrap (c1 + 1)), .int .i64 c2, .int .i64 c3] :: bufA 99 512 (some bk) kept.length kept.length (kept.map seB).flatten :: bufA 101 513 ac cache.length cap (cache.map loB).flatten :: F)
   (fun j => j ≤ cache.length) (fun j => cache.length - j) 0 (Nat.zero_le _) (by repeat (first | exact K.Sub.nil _ | refine K.Sub.cons rfl ?_)) rfl (by rw [List.take_zero, hv0]) ?_
  rintro j hj KL hKL
  have hvj : (viewQ kept (cache.take j) a).length = 512 := hvl _ fun l hl => (hlos l (List.mem_of_mem_take hl)).2
  have hvj5 : (seB (viewQ kept (cache.take j) a)).length = 512 := by rw [seB_len, hvj]
  by_cases hjl : j < cache.length
  ·refine K.WC.someBuf 3 rfl (by omega) (fun b hb' => ?_)
   subst hb'
   obtain ⟨l, hl⟩ : ∃ l, cache[j]? = some l := ⟨_, List.getElem?_eq_getElem hjl⟩
   have hla : (cache.map loB)[j]? = some (loB l) := by rw [List.getElem?_map, hl]; rfl
   have hl5 : (loB l).length = 513 := hlo _ (List.mem_of_getElem? hla)
   have hl2 := (hlos l (List.mem_of_getElem? hl)).2
   have hview : viewQ kept (cache.take (j + 1)) a = if l.1 = a then l.2 else viewQ kept (cache.take j) a := by
    rw [List.take_add_one, hl]; exact view_snoc _ _ _ _
   (repeat' first | refine X.rq ?_ | refine X.rc ?_ ?_ <;> intro hc <;> try omega)
   rw [show 0 + (j : Int).toNat * 513 = j * 513 by omega]
   refine K.s_pure (K.p_loadM (Fx.agg rfl) rfl (K.cels_rowZ 3 rfl hlo hla) (Fx.sz rfl) hl5) rfl ?_
   refine K.l_alloc zrL rfl rfl (fun B8 => ?_)
   refine K.l_storeW_at 0 rfl (by rw [hl5]; exact (Fx.sz rfl)) rfl rfl (loB_ones _) (by rw [hl5, List.length_cons, nul_len]) rfl ?_
   simp only [Go.K.nmz]
   by_cases hla1 : l.1 = a
   ·rw [if_pos hla1] at hview
    (repeat' first | refine X.rq ?_ | refine X.rc ?_ ?_ <;> intro hc <;> try omega)
    all_goals try (exfalso; omega)
    refine K.s_pure (K.p_loadM (vs := seB l.2) (Fx.agg rfl) rfl (K.cels_own (pre := []) (cs := loB l) (post := []) 0 (by rw [List.nil_append, List.append_nil]; rfl) rfl).2 (Fx.sz rfl) (by rw [seB_len, hl2])) rfl ?_
    refine K.l_storeW_at 1 rfl (by rw [seB_len, hl2]; exact (Fx.sz rfl)) rfl rfl (seB_ones _) (by rw [hvj5, seB_len, hl2]) rfl ?_
    simp only [Go.K.nmz]
    (repeat' first | refine X.rq ?_ | refine X.rc ?_ ?_ <;> intro hc <;> try omega)
    refine K.AT.drop ?_
    refine K.a_round hKL (j + 1) (by omega) (by repeat (first | exact K.Sub.nil _ | refine K.Sub.cons rfl ?_)) rfl (by rw [hview]) (by omega)
   ·rw [if_neg hla1] at hview
    (repeat' first | refine X.rq ?_ | refine X.rc ?_ ?_ <;> intro hc <;> try omega)
    all_goals try (exfalso; omega)
    refine K.AT.drop ?_
    refine K.a_round hKL (j + 1) (by omega) (by repeat (first | exact K.Sub.nil _ | refine K.Sub.cons rfl ?_)) rfl (by rw [hview]) (by omega)
  ·obtain rfl : j = cache.length := by omega
   rw [List.take_length] at hvj ⊢
   (repeat' first | refine X.rq ?_ | refine X.rc ?_ ?_ <;> intro hc <;> try omega)
   refine K.s_pure (K.p_sliceAll (Fx.und rfl) (Fx.sz rfl) rfl) rfl ?_
   refine K.WL.bufOf (m := 512) (s := 1) (by rw [seB_len, hvj]) (by unfold maxLen; omega) ?_
   refine K.WL.freezeBufN (l := viewQ kept cache a) hvj.symm (fun h2 le2 hbv => ?_)
   (repeat' first | refine X.rq ?_ | refine X.rc ?_ ?_ <;> intro hc <;> try omega)
   exact K.dn (vs := [.slice (some ⟨B6, 0, none⟩) 512 512, .int .i64 0]) rfl le2 (H' := [_, _, _]) rfl ⟨rfl, _, _, rfl, hbv⟩
theorem Read (h : Base) (d : Nat) (M : DM) (D : Dk) (at_ : Int) (hk : DkOk D) (ha1 : -9223372036854775808 ≤ at_) (ha2 : at_ ≤ 9223372036854775807) :
  Tr Tryz.prog 36 [dv d, .int .i64 at_] h (dkA d M D) (fun v h' H' => (∃ c, H' = dkA d { M with c1 := c } (readQ D at_).2) ∧ ReadR h' (readQ D at_).1 v) :=
 fun F w ok => Calls.mono (Read1 h d M D at_ hk ha1 ha2 F w ok) fun e w' ⟨u, he, h1, H1, hle, q, ok1⟩ => ⟨u, he, h1, H1, hle, ⟨by
  cases hr : (readQ D at_).1 with
  | ok b => exact ⟨_, by rw [q.1, hr]; rfl⟩
  | error e => exact ⟨M.c1, by rw [q.1, hr]; rfl⟩, q.2⟩, ok1⟩
end Go.Proofs.YtijbhgiigddjdaaGreat.Wl
end
