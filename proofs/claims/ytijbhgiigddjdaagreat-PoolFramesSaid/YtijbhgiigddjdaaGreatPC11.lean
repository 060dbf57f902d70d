/-
 Arrays and slices of them; a disk's state: sectors, a cache of writes, the power. Conditions: each theorem's own.
-/
import Derived.Laws.Cover3
import Derived.Test.YtijbhgiigddjdaaGreatPC3
import Derived.Test.YtijbhgiigddjdaaGreatPC9
import Derived.Test.YtijbhgiigddjdaaGreatPC10
set_option linter.unusedVariables false
set_option linter.unusedSimpArgs false
set_option maxRecDepth 10000
set_option maxHeartbeats 16000000
namespace Go.K
set_option linter.unusedSectionVars false
section
variable {P : Program} {n : NN} {E : Env} {h : Base} {K : List Asrt} {dst : Option Nat} {t ty : TypeId} {ps : String} {af : Array Edge} {g : Option (Nat × Bool)} {x y : Operand} {v : Value}
theorem p_arrAt {e : TypeId} {m len cap : Nat} {ao : Option Addr} (hu : P.underlying t = some (.array m e)) (hx : lkO E x = some (.slice ao len cap)) (hl : m ≤ len) : Pu P n E h K ⟨dst, .sliceToArrayPointer t x, ty, ps, af, g⟩ (.pointer ao) :=
 ⟨fun a w fa _ => by simp [execOp, fa.eval hx, run_arrayAt w t e m ao len cap hu hl]⟩
theorem p_sliceAll {e : TypeId} {m s b o : Nat} (hu : P.underlying t = some (.array m e)) (hs : szOf P e = some s) (hx : lkO E x = some (.pointer (some ⟨b, o, none⟩))) : Pu P n E h K ⟨dst, .slice t x none none none, ty, ps, af, g⟩ (.slice (some ⟨b, o, none⟩) m m) :=
 ⟨fun a w fa _ => by simp [execOp, fa.eval hx, Instr.sliceAt, Instr.sureAddr, run_underlying hu, Instr.sliceBounds, run_sizeOf hs, add_none]⟩
theorem p_sliceFrom {e : TypeId} {m s b o l : Nat} {k : IntKind} (hu : P.underlying t = some (.array m e)) (hs : szOf P e = some s) (hx : lkO E x = some (.pointer (some ⟨b, o, none⟩))) (hy : lkO E y = some (.int k l)) (hl : l < m) : Pu P n E h K ⟨dst, .slice t x (some y) none none, ty, ps, af, g⟩ (.slice (some ⟨b, o + l * s, none⟩) (m - l) (m - l)) :=
 ⟨fun a w fa _ => by
  have hb : ∀ c : BoundsCode, (Instr.sliceBound (.int k l) m c).run P w = .ok l w := by simp [Instr.sliceBound, asIntOf]; omega
  simp [execOp, fa.eval hx, fa.eval hy, Instr.sliceAt, Instr.sureAddr, run_underlying hu, Instr.sliceBounds, run_sizeOf hs, add_none, hb]
  intro hml
  exact absurd hml (by omega)⟩
variable {Q : Exit → Act → World → Prop} {H : List Asrt} {ops : Array Oper} {rest : List Oper}
theorem zero_cells (zs : List Value) (m : Nat) : (Builtin.zeroCells zs.toArray m).toList = (List.replicate m zs).flatten := by
 simp only [Builtin.zeroCells, Array.toList_map, Array.toList_range, List.size_toArray]
 induction m with
 | zero => simp
 | succ m ih =>
  rw [Nat.succ_mul, List.range_add, List.map_append, ih, List.replicate_succ', List.flatten_append, List.flatten_singleton]
  congr 1
  rw [List.map_map]
  refine List.ext_getElem? fun i => ?_
  rw [List.getElem?_map]
  by_cases hi : i < zs.length
  ·rw [List.getElem?_range hi]
   have : (m * zs.length + i) % zs.length = i := by rw [Nat.add_comm, Nat.add_mul_mod_self_right, Nat.mod_eq_of_lt hi]
   simp [hi, this]
  ·rw [List.getElem?_eq_none (by simpa using hi), List.getElem?_eq_none (by omega)]; rfl
theorem l_clearR {e b o m c : Nat} {T : TypeId} {fz : Nat × Nat} {z : Value} {zs pre cs post : List Value} (hu : P.underlying t = some (.slice e)) (hz : zrOf P e = some z) (hzs : z.cells = zs.toArray) (h1 : ones zs = true) (hx : lkO E x = some (.slice (some ⟨b, o, none⟩) m c))
  (h0 : 0 < m) (hl : m * zs.length = cs.length) (ho : pre.length = o) (hf : Free fz (o + m * zs.length)) (hk : WL P n ops Q rest E h (blkF b T (pre ++ (List.replicate m zs).flatten ++ post) fz :: H)) :
  WL P n ops Q (⟨none, .call ⟨.builtin .clear, #[x], #[t]⟩, ty, ps, af, none⟩ :: rest) E h (blkF b T (pre ++ cs ++ post) fz :: H) :=
 ⟨fun ac w fa ok => wpList_plain rfl fun KK hK => by
  subst ho
  obtain ⟨m, rfl⟩ : ∃ k, m = k + 1 := ⟨m - 1, by omega⟩
  have hle : (List.replicate (m + 1) zs).flatten.length = (m + 1) * zs.length := by rw [K.flatten_len (s := zs.length) _ fun e he => by rw [(List.mem_replicate.1 he).2], List.length_replicate]
  obtain ⟨w', e1, ok'⟩ := Ok.storesF (P := P) (List.replicate (m + 1) zs).flatten pre cs post w (by rw [hle]; exact hl) (fun u hu => by
   obtain ⟨e, he, hue⟩ := List.mem_flatten.1 hu
   rw [(List.mem_replicate.1 he).2] at hue
   exact List.all_eq_true.1 h1 u hue) (by rw [hle]; exact hf) ok
  have e2 : (storeCells ⟨b, pre.length, none⟩ (List.replicate (m + 1) zs).flatten).run P w = .ok () w' := by rw [storeCells_at, Nat.add_zero]; exact e1
  have hzc : (Builtin.zeroCells z.cells (m + 1)).toList = (List.replicate (m + 1) zs).flatten := by rw [hzs, zero_cells]
  unfold Oper.wp
  have : (execOp ac.eval ⟨none, .call ⟨.builtin .clear, #[x], #[t]⟩, ty, ps, af, none⟩).run P w = .ok (.value (.tuple #[])) w' := by
   rw [show (#[x] : Array Operand) = [x].toArray from rfl, run_builtin (vals := [.slice (some ⟨b, pre.length, none⟩) (m + 1) c]) fa (by simp [evArgs, hx])]
   simp [builtin, Builtin.clear_, run_underlying hu, run_zero hz, hzc, e2]
  rw [this, Oper.upon_value]
  exact hK _ _ (hk.run _ _ fa ok')⟩
theorem WL.freezeBufN {L : List Oper} {T : TypeId} {a : Option Nat} {m cap : Nat} {l : List UInt8} (hm : m = l.length) (hk : ∀ h', h.le h' → BV h' (bufV a m cap) l → WL P n ops Q L E h' H) : WL P n ops Q L E h (bufA T 1 a m cap (l.map u8) :: H) := by
 subst hm
 exact WL.freezeBuf hk
theorem l_clear0 {e : TypeId} {ao : Option Addr} {c : Nat} (hu : P.underlying t = some (.slice e)) (hx : lkO E x = some (.slice ao 0 c)) (hk : WL P n ops Q rest E h H) : WL P n ops Q (⟨none, .call ⟨.builtin .clear, #[x], #[t]⟩, ty, ps, af, none⟩ :: rest) E h H :=
 ⟨fun ac w fa ok => wpList_plain rfl fun KK hK => by
  unfold Oper.wp
  have : (execOp ac.eval ⟨none, .call ⟨.builtin .clear, #[x], #[t]⟩, ty, ps, af, none⟩).run P w = .ok (.value (.tuple #[])) w := by
   rw [show (#[x] : Array Operand) = [x].toArray from rfl, run_builtin (vals := [.slice ao 0 c]) fa (by simp [evArgs, hx])]
   cases ao <;> simp [builtin, Builtin.clear_, run_underlying hu]
  rw [this, Oper.upon_value]
  exact hK _ _ (hk.run _ _ fa ok)⟩
end
end Go.K
namespace Go.Proofs.YtijbhgiigddjdaaGreat.Wl
open Go.K

def nul (m : Nat) : List Value := List.replicate m (.int .u8 0)
theorem zrS : zrOf Tryz.prog 99 = some (.agg (nul 512).toArray) := by kernel_rfl
theorem zrL : zrOf Tryz.prog 101 = some (.agg (.int .i64 0 :: nul 512).toArray) := by kernel_rfl
theorem plL : placesOf Tryz.prog 101 = some [(0, 1), (1, 512)] := by kernel_rfl
abbrev Sec := List UInt8
abbrev Loo := Nat × Sec
structure Dk where
 kept : List Sec
 cache : List Loo
 trip : Int
 dark : Bool
structure DM where
 bk : Nat
 ac : Option Nat
 cap : Nat
 c1 : Int
 c2 : Int
 c3 : Int
def seB (s : Sec) : List Value := s.map u8
def loB (l : Loo) : List Value := .int .i64 l.1 :: seB l.2
def dkV (M : DM) (D : Dk) : List Value := [bufV (some M.bk) D.kept.length D.kept.length, bufV M.ac D.cache.length M.cap, .int .i64 D.trip, .bool D.dark, .int .i64 M.c1, .int .i64 M.c2, .int .i64 M.c3]
def keptA (M : DM) (D : Dk) : Asrt := bufA 99 512 (some M.bk) D.kept.length D.kept.length (D.kept.map seB).flatten
def cacheA (M : DM) (D : Dk) : Asrt := bufA 101 513 M.ac D.cache.length M.cap (D.cache.map loB).flatten
def dkA (d : Nat) (M : DM) (D : Dk) : List Asrt := [blk d 98 (dkV M D), keptA M D, cacheA M D]
structure DkOk (D : Dk) : Prop where
 secs : ∀ s ∈ D.kept, s.length = 512
 los : ∀ l ∈ D.cache, l.1 < D.kept.length ∧ l.2.length = 512
 pos : 0 < D.kept.length
 few : D.kept.length ≤ 8192
 trip : -1 ≤ D.trip ∧ D.trip ≤ 9223372036854775807
 room : D.cache.length ≤ 1000000000
def goesQ (D : Dk) : Bool × Dk := if D.dark then (false, D) else if D.trip = 0 then (false, { D with dark := true, trip := -1 }) else if 0 < D.trip then (true, { D with trip := D.trip - 1 }) else (true, D)
theorem goes_kept (D : Dk) : (goesQ D).2.kept = D.kept ∧ (goesQ D).2.cache = D.cache := by
 unfold goesQ
 split
 ·exact ⟨rfl, rfl⟩
 ·split
  ·exact ⟨rfl, rfl⟩
  ·split <;> exact ⟨rfl, rfl⟩
theorem DkOk.goes {D : Dk} (h : DkOk D) : DkOk (goesQ D).2 := by
 obtain ⟨e1, e2⟩ := goes_kept D
 refine ⟨by rw [e1]; exact h.secs, by rw [e1, e2]; exact h.los, by rw [e1]; exact h.pos, by rw [e1]; exact h.few, ?_, by rw [e2]; exact h.room⟩
 have ht := h.trip
 unfold goesQ
 split
 ·exact ht
 ·split
  ·exact ⟨Int.le_refl _, (by decide : (-1 : Int) ≤ 9223372036854775807)⟩
  ·split
   ·constructor <;> dsimp only <;> omega
   ·exact ht
theorem Goes (h : Base) (d : Nat) (M : DM) (D : Dk) (hk : DkOk D) : Tr Tryz.prog 33 [.pointer (some ⟨d, 0, none⟩)] h (dkA d M D) (fun v h' H' => h' = h ∧ v = .bool (goesQ D).1 ∧ H' = dkA d M (goesQ D).2) := by
 have hp := hk.pos
 have hf := hk.few
 have ht := hk.trip
 obtain ⟨kept, cache, trip, dark⟩ := D
 dsimp only at hp hf ht
 refine K.en Tryz.func33 fun F => ?_
 unfold dkA dkV
 simp only [Go.K.cna]
 cases dark with
 | true =>
  (repeat' first | refine X.rq ?_ | refine X.rc ?_ ?_ <;> intro hc <;> try omega)
  all_goals try (exfalso; omega)
  refine K.dl rfl (H' := [_, _, _]) rfl ⟨rfl, rfl, rfl⟩
 | false =>
  by_cases h0 : trip = 0
  ·have eg : goesQ ⟨kept, cache, trip, false⟩ = (false, ⟨kept, cache, -1, true⟩) := by unfold goesQ; simp [h0]
   rw [eg]
   subst h0
   (repeat' first | refine X.rq ?_ | refine X.rc ?_ ?_ <;> intro hc <;> try omega)
   all_goals try (exfalso; omega)
   refine X.sto ?_
   simp only [Go.K.nmz]
   (repeat' first | refine X.rq ?_ | refine X.rc ?_ ?_ <;> intro hc <;> try omega)
   all_goals try (exfalso; omega)
   refine X.sto ?_
   simp only [Go.K.nmz]
   (repeat' first | refine X.rq ?_ | refine X.rc ?_ ?_ <;> intro hc <;> try omega)
   refine K.dl rfl (H' := [_, _, _]) rfl ⟨rfl, rfl, rfl⟩
  ·by_cases h1 : 0 < trip
   ·have eg : goesQ ⟨kept, cache, trip, false⟩ = (true, ⟨kept, cache, trip - 1, false⟩) := by unfold goesQ; simp [h0, h1]
    rw [eg]
    (repeat' first | refine X.rq ?_ | refine X.rc ?_ ?_ <;> intro hc <;> try omega)
    all_goals try (exfalso; omega)
    refine X.sto ?_
    simp only [Go.K.nmz]
    (repeat' first | refine X.rq ?_ | refine X.rc ?_ ?_ <;> intro hc <;> try omega)
    refine K.dl rfl (H' := [_, _, _]) rfl ⟨rfl, rfl, rfl⟩
   ·have eg : goesQ ⟨kept, cache, trip, false⟩ = (true, ⟨kept, cache, trip, false⟩) := by unfold goesQ; simp [h0, h1]
    rw [eg]
    (repeat' first | refine X.rq ?_ | refine X.rc ?_ ?_ <;> intro hc <;> try omega)
    all_goals try (exfalso; omega)
    refine K.dl rfl (H' := [_, _, _]) rfl ⟨rfl, rfl, rfl⟩
abbrev dv (d : Nat) : Value := .pointer (some ⟨d, 0, none⟩)
theorem Sectors (h : Base) (d : Nat) (M : DM) (D : Dk) : TrV Tryz.prog 32 [dv d] h (dkA d M D) (.int .i64 D.kept.length) (dkA d M D) := by
 refine K.en Tryz.func32 fun F => ?_
 unfold dkA dkV
 simp only [Go.K.cna]
 (repeat' first | refine X.rq ?_ | refine X.rc ?_ ?_ <;> intro hc <;> try omega)
 refine K.dl rfl (H' := [_, _, _]) rfl ⟨rfl, rfl, rfl⟩
theorem Pending (h : Base) (d : Nat) (M : DM) (D : Dk) : TrV Tryz.prog 98 [dv d] h (dkA d M D) (.int .i64 D.cache.length) (dkA d M D) := by
 refine K.en Tryz.func98 fun F => ?_
 unfold dkA dkV
 simp only [Go.K.cna]
 (repeat' first | refine X.rq ?_ | refine X.rc ?_ ?_ <;> intro hc <;> try omega)
 refine K.dl rfl (H' := [_, _, _]) rfl ⟨rfl, rfl, rfl⟩
theorem Counts (h : Base) (d : Nat) (M : DM) (D : Dk) : TrV Tryz.prog 23 [dv d] h (dkA d M D) (.agg [.int .i64 M.c1, .int .i64 M.c2, .int .i64 M.c3].toArray) (dkA d M D) := by
 refine K.en Tryz.func23 fun F => ?_
 unfold dkA dkV
 simp only [Go.K.cna]
 (repeat' first | refine X.rq ?_ | refine X.rc ?_ ?_ <;> intro hc <;> try omega)
 refine K.l_alloc (Fx.zr rfl) rfl rfl (fun B2 => ?_)
 (repeat' first | refine X.rq ?_ | refine X.rc ?_ ?_ <;> intro hc <;> try omega)
 refine K.s_pure (K.p_loadM (vs := [.int .i64 M.c1, .int .i64 M.c2, .int .i64 M.c3]) (Fx.agg rfl) rfl (K.cels_own (pre := [bufV (some M.bk) D.kept.length D.kept.length, bufV M.ac D.cache.length M.cap, .int .i64 D.trip, .bool D.dark]) (post := []) 1 rfl rfl) (Fx.sz rfl) rfl) rfl ?_
 refine X.stw ?_
 simp only [Go.K.nmz]
 (repeat' first | refine X.rq ?_ | refine X.rc ?_ ?_ <;> intro hc <;> try omega)
 exact K.dc (vs := [.agg [.int .i64 M.c1, .int .i64 M.c2, .int .i64 M.c3].toArray]) (.cell rfl (Fx.agg rfl) (Fx.sz rfl) (K.cels_own (pre := []) (post := []) 0 rfl rfl) .nil) (K.Base.le.refl _) (D := [_]) (H' := [_, _, _]) rfl ⟨rfl, rfl, rfl⟩
theorem Empty (h : Base) (d : Nat) (M : DM) (D : Dk) (hlo : ∀ l ∈ D.cache, l.2.length = 512) : Tr Tryz.prog 66 [dv d] h (dkA d M D) (fun v h' H' => h' = h ∧ v = .tuple #[] ∧ H' = dkA d M { D with cache := [] }) := by
 obtain ⟨kept, cache, trip, dark⟩ := D
 obtain ⟨bk, ac, cap, c1, c2, c3⟩ := M
 dsimp only at hlo
 refine K.en Tryz.func66 fun F => ?_
 unfold dkA dkV cacheA
 simp only [Go.K.cna]
 refine K.WC.perm (K.pp [2] rfl) ?_
 simp only [Go.K.nmz]
 refine K.oc_buf (fun e1 e2 e3 e4 => ?_) ?_
 ·subst e1 e3
  obtain rfl := List.eq_nil_of_length_eq_zero e2
  (repeat' first | refine X.rq ?_ | refine X.rc ?_ ?_ <;> intro hc <;> try omega)
  refine K.l_clear0 (Fx.und rfl) rfl ?_
  generalize hsv : bufV none ([] : List Loo).length 0 = sv
  (repeat' first | refine X.rq ?_ | refine X.rc ?_ ?_ <;> intro hc <;> try omega)
  subst hsv
  refine K.s_pure (K.p_slice0 (lo := none) (hi := some (.const (.int .i64 0))) (k1 := .i64) (k2 := .i64) (Fx.und rfl) (Fx.sz rfl) rfl trivial rfl) rfl ?_
  (repeat' first | refine X.rq ?_ | refine X.rc ?_ ?_ <;> intro hc <;> try omega)
  refine X.sto ?_
  simp only [Go.K.nmz]
  (repeat' first | refine X.rq ?_ | refine X.rc ?_ ?_ <;> intro hc <;> try omega)
  refine K.AT.nilBuf 101 513 ?_
  refine K.AT.perm (K.pp [1, 1] rfl) ?_
  refine K.dl rfl (H' := [_, _, _]) rfl ⟨rfl, rfl, rfl⟩
 ·rintro b sp fz rfl g2 g3 g4 g5 g6
  have hll : (cache.map loB).flatten.length = cache.length * 513 := g2
  by_cases h0 : cache = []
  ·subst h0
   (repeat' first | refine X.rq ?_ | refine X.rc ?_ ?_ <;> intro hc <;> try omega)
   refine K.l_clear0 (Fx.und rfl) rfl ?_
   (repeat' first | refine X.rq ?_ | refine X.rc ?_ ?_ <;> intro hc <;> try omega)
   refine K.s_pure (K.p_slice (ao := some ⟨b, 0, none⟩) (lo := none) (hi := some (.const (.int .i64 0))) (k1 := .i64) (k2 := .i64) (l := 0) (u := 0) (Fx.und rfl) (Fx.sz rfl) rfl rfl ⟨0, rfl, rfl⟩ (Nat.le_refl _) (Nat.zero_le _) (by split <;> simp)) rfl ?_
   (repeat' first | refine X.rq ?_ | refine X.rc ?_ ?_ <;> intro hc <;> try omega)
   refine X.sto ?_
   simp only [Go.K.nmz]
   (repeat' first | refine X.rq ?_ | refine X.rc ?_ ?_ <;> intro hc <;> try omega)
   refine K.AT.shut (m := 0) (cap := cap) (cs := []) (sp := (List.map loB []).flatten ++ sp) rfl g3 (Nat.zero_le _) g5 g6 ?_
   refine K.AT.perm (K.pp [1, 1] rfl) ?_
   refine K.dl rfl (H' := [_, _, _]) rfl ⟨rfl, rfl, rfl⟩
  ·have h1 : 0 < cache.length := List.length_pos_iff.2 h0
   (repeat' first | refine X.rq ?_ | refine X.rc ?_ ?_ <;> intro hc <;> try omega)
   refine K.l_clearR (zs := .int .i64 0 :: nul 512) (pre := []) (cs := (cache.map loB).flatten) (post := sp) (Fx.und rfl) zrL rfl rfl rfl h1 (by rw [hll]; rfl) rfl (fun o ho => g6 o (by change o < 0 + cache.length * 513 at ho; omega)) ?_
   (repeat' first | refine X.rq ?_ | refine X.rc ?_ ?_ <;> intro hc <;> try omega)
   refine K.s_pure (K.p_slice (ao := some ⟨b, 0, none⟩) (lo := none) (hi := some (.const (.int .i64 0))) (k1 := .i64) (k2 := .i64) (l := 0) (u := 0) (Fx.und rfl) (Fx.sz rfl) rfl rfl ⟨0, rfl, rfl⟩ (Nat.le_refl _) (Nat.zero_le _) (by split <;> simp)) rfl ?_
   (repeat' first | refine X.rq ?_ | refine X.rc ?_ ?_ <;> intro hc <;> try omega)
   refine X.sto ?_
   simp only [Go.K.nmz]
   (repeat' first | refine X.rq ?_ | refine X.rc ?_ ?_ <;> intro hc <;> try omega)
   refine K.AT.shut (m := 0) (cap := cap) (cs := []) (sp := [] ++ (List.replicate cache.length (.int .i64 0 :: nul 512)).flatten ++ sp) rfl (by rw [← g3]; simp [hll, nul]) (Nat.zero_le _) g5 g6 ?_
   refine K.AT.perm (K.pp [1, 1] rfl) ?_
   refine K.dl rfl (H' := [_, _, _]) rfl ⟨rfl, rfl, rfl⟩
end Go.Proofs.YtijbhgiigddjdaaGreat.Wl
