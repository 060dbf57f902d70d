/-
  Texts joined: Si Sj. Conditions: each theorem's own.
-/
import Derived.Test.YtmcdaegaopfihaaGreatQ16
import Derived.Test.YtmcdaegaopfihaaGreatQ23
section
namespace Go.K
open Go
set_option linter.unusedVariables false
set_option linter.unusedSimpArgs false
set_option linter.unusedSectionVars false
section
variable {P : Program} {n : NN} {Q : Exit → Act → World → Prop} {E : Env} {h : Base} {H R : List Asrt} {ops : Array Oper} {rest : List Oper}
variable {t t2 ty : TypeId} {ps : String} {af : Array Edge} {d : Nat} {x y : Operand}
theorem run_appendSrc {e s bs m sLen cap : Nat} {ad : Addr} {z : Value} {d2 : TypeDesc} {cs xs : List Value} {xv : Value} {w : World} (hu : P.underlying t = some (.slice e)) (hu2 : P.underlying t2 = some d2) (hi2 : okD2 d2 = true)
    (hs : szOf P e = some s) (hz : zrOf P e = some z) (hzs : z.cells.size = s) (hb : byOf P e = some bs) (hx0 : Src P h R s (.slice (some ad) sLen cap) sLen cs) (hx : Src P h R s xv m xs) (hno : cap < sLen + m) (hmax : sLen + m ≤ 9223372036854775807) (hby : (sLen + m) * bs ≤ 140737488355328)
    (ok : Ok h R w) :
    ∃ a' cap' w', (Builtin.append_ #[t, t2] ty #[.slice (some ad) sLen cap, xv]).run P w = .ok (bufV a' (sLen + m) cap') w' ∧ Ok h (bufA e s a' (sLen + m) cap' (cs ++ xs) :: R) w' := by
  obtain ⟨i, hi, hi1, hi2', hi3⟩ : ∃ i, P.info? e = some i ∧ i.size = s ∧ i.bytes = bs ∧ i.zero = some z := by
    unfold szOf at hs; unfold byOf at hb; unfold zrOf at hz
    cases hi : P.info? e with
    | none => simp [hi] at hs
    | some i => simp [hi] at hs hb hz; exact ⟨i, rfl, hs, hb, hz⟩
  have hsat : Sat h R w := ok.sat
  have hol := hx0.size
  have grow : ∃ a' cap' w', Result.ok (Value.slice (some ⟨w.drew.heap.size, 0, none⟩) (sLen + m) (grownCap w (sLen + m) cap e)) (w.drew.alloc (.cells (cs.toArray ++ xs.toArray ++ Builtin.zeroCells z.cells (grownCap w (sLen + m) cap e - (sLen + m))) e)) = .ok (bufV a' (sLen + m) cap') w' ∧
      Ok h (bufA e s a' (sLen + m) cap' (cs ++ xs) :: R) w' := by
    have hge := grownCap_ge w (sLen + m) cap e
    have hle := grownCap_le_maxLen w (sLen + m) cap e (by unfold maxLen; omega)
    refine ⟨some w.drew.heap.size, _, _, rfl, ?_⟩
    have okd : Ok h R w.drew := ok.drew rfl rfl rfl rfl
    have ok2 := okd.alloc (cs ++ xs ++ (Builtin.zeroCells z.cells (grownCap w (sLen + m) cap e - (sLen + m))).toList) e (0, 0)
    have harr : (cs ++ xs ++ (Builtin.zeroCells z.cells (grownCap w (sLen + m) cap e - (sLen + m))).toList).toArray = cs.toArray ++ xs.toArray ++ Builtin.zeroCells z.cells (grownCap w (sLen + m) cap e - (sLen + m)) := by
      apply Array.ext'; simp
    have hcells : (w.drew.alloc (.cells (cs.toArray ++ xs.toArray ++ Builtin.zeroCells z.cells (grownCap w (sLen + m) cap e - (sLen + m))) e)).heap[w.drew.heap.size]? = some (.cells ((cs ++ xs) ++ (Builtin.zeroCells z.cells (grownCap w (sLen + m) cap e - (sLen + m))).toList).toArray e (0, 0)) := by
      rw [harr]
      exact Array.getElem?_push_size
    rw [harr] at ok2
    refine ⟨ok2.os, ok2.tape, ok2.output, ⟨ok2.sat.imm, fun A hA => ?_⟩, ok2.nd, ok2.dj⟩
    rcases List.mem_cons.1 hA with rfl | hA'
    · refine ⟨_, (0, 0), hcells, ?_, ?_, hge, hle, Free.zero _⟩
      · rw [List.length_append, hol, hx.size, Nat.add_mul]
      · rw [List.length_append, List.length_append, hol, hx.size, zeroCells_len, hzs, ← Nat.add_mul, ← Nat.add_mul]
        congr 1; omega
    · exact ok2.sat.own A (List.mem_cons_of_mem _ hA')
  have hfs : (Builtin.firstCells s m xv).run P w.drew = .ok xs.toArray w.drew := hx.get w.drew (hsat.heap rfl)
  have hold : (Builtin.firstCells s sLen (.slice (some ad) sLen cap)).run P w.drew = .ok cs.toArray w.drew := hx0.get w.drew (hsat.heap rfl)
  have hroom : ¬ (sLen + m ≤ cap) := by omega
  cases d2 <;> simp only [okD2, Bool.false_eq_true] at hi2
  all_goals
    obtain ⟨a', cap', w', e1, e2⟩ := grow
    refine ⟨a', cap', w', ?_, e2⟩
    rw [← e1]
    have hfit : ¬ 281474976710656 < Builtin.nextslicecap (sLen + m) cap * i.bytes := by
      have := growslice_fits (need := sLen + m) (old := cap) (bytes := i.bytes) (by omega) (by rw [hi2']; exact hby)
      omega
    have hmm' : ¬ (9223372036854775807 < (sLen : Int) + (m : Int) ∧ i.bytes = 0) := by omega
    simp only [Builtin.append_, Sem.run_bind, List.getElem?_toArray, List.getElem?_cons_zero, List.getElem?_cons_succ, run_underlying hu, run_underlying hu2, Result.andThen_ok, run_sizeOf (P := P) (t := e) (s := s) (by simp [szOf, hi, hi1])]
    simp [hx.len, hroom, hmm', typeInfo, hi, hfit, Question.forced, hold, hfs, zeroValue, hi3, newRow, grownCap, IntKind.max, IntKind.signed, IntKind.bits]
    rw [← Array.append_assoc, show (cs ++ xs).toArray = cs.toArray ++ xs.toArray from by simp]
theorem l_appendSrc {e s bs m sLen cap : Nat} {ad : Addr} {z : Value} {d2 : TypeDesc} {cs xs : List Value} {xv : Value} (hu : P.underlying t = some (.slice e)) (hu2 : P.underlying t2 = some d2) (hi2 : okD2 d2 = true)
    (hs : szOf P e = some s) (hz : zrOf P e = some z) (hzs : z.cells.size = s) (hb : byOf P e = some bs) (hx : lkO E x = some (.slice (some ad) sLen cap)) (hy : lkO E y = some xv) (hx0 : Src P h H s (.slice (some ad) sLen cap) sLen cs) (hsrc : Src P h H s xv m xs)
    (hno : cap < sLen + m) (hmax : sLen + m ≤ 9223372036854775807) (hby : (sLen + m) * bs ≤ 140737488355328) (hd : Nat.blt d n = true)
    (hk : ∀ a' cap', WL P n ops Q rest ((d, bufV a' (sLen + m) cap') :: E) h (bufA e s a' (sLen + m) cap' (cs ++ xs) :: H)) :
    WL P n ops Q (⟨some d, .call ⟨.builtin .append, #[x, y], #[t, t2]⟩, ty, ps, af, none⟩ :: rest) E h H :=
  ⟨fun a w fa ok => wpList_plain rfl fun K hK => by
    unfold Oper.wp
    obtain ⟨a', cap', w', e1, ok'⟩ := run_appendSrc (P := P) (ty := ty) (w := w) hu hu2 hi2 hs hz hzs hb hx0 hsrc hno hmax hby ok
    have : (execOp a.eval ⟨some d, .call ⟨.builtin .append, #[x, y], #[t, t2]⟩, ty, ps, af, none⟩).run P w = .ok (.value (bufV a' (sLen + m) cap')) w' := by
      rw [show (#[x, y] : Array Operand) = [x, y].toArray from rfl, run_builtin (vals := [.slice (some ad) sLen cap, xv]) fa (by simp [evArgs, hx, hy])]
      simp only [builtin, Sem.run_bind, e1, Result.andThen_ok, Sem.run_pure]
    rw [this, Oper.upon_value]
    exact hK _ _ ((hk a' cap').run _ _ (fa.put _ hd) ok')⟩
end
end Go.K
end

section
namespace Go.Proofs.YtmcdaegaopfihaaGreat.Wl
open Go Go.K Go.Proofs Go.Proofs.YtmcdaegaopfihaaGreat Go.Proofs.YtmcdaegaopfihaaGreat.Cc
set_option linter.unusedVariables false
set_option linter.unusedSimpArgs false
set_option maxRecDepth 10000

structure Lg where
  m : Mas
  stream : List UInt8
  starts : List Nat
  durable : Nat
structure LM where
  sv : Value
  sA : Asrt
  ar : Option Nat
  kr : Nat
def n64 (x : Nat) : Value := .int .u64 (x : Int)
def lgV (d : Nat) (W : LM) (L : Lg) : List Value := [dv d, .int .i64 L.m.n, n64 L.m.base, n64 L.m.check, .int .u32 L.m.kept, .bool L.m.wiped, W.sv, bufV W.ar L.starts.length W.kr, n64 L.durable]
def startsA (W : LM) (L : Lg) : Asrt := bufA 27 1 W.ar L.starts.length W.kr (L.starts.map n64)
def lgA (p d : Nat) (W : LM) (L : Lg) : List Asrt := [blk p 34 (lgV d W L), W.sA, startsA W L]
def StrOk (h : Base) (W : LM) (l : List UInt8) : Prop := (∃ a cap, W.sv = bufV a l.length cap ∧ W.sA = bufA 5 1 a l.length cap (l.map u8)) ∨ (∃ ao, W.sv = .slice ao l.length l.length ∧ BV h W.sv l ∧ W.sA = all [])
theorem StrOk.le {h h' : Base} {W : LM} {l : List UInt8} (hs : StrOk h W l) (hle : h.le h') : StrOk h' W l := by
  rcases hs with h1 | ⟨ao, e, hb, hA⟩
  · exact .inl h1
  · exact .inr ⟨ao, e, hb.le hle, hA⟩
theorem StrOk.len {h : Base} {W : LM} {l : List UInt8} (hs : StrOk h W l) : ∃ ao c, W.sv = .slice ao l.length c := by
  rcases hs with ⟨a, cap, e, _⟩ | ⟨ao, e, _, _⟩
  · exact ⟨_, _, e⟩
  · exact ⟨_, _, e⟩
structure LgOk (L : Lg) : Prop where
  mas : MasOk L.m
  base : 1 ≤ L.m.base ∧ L.m.base ≤ lastLSN
  str : L.stream.length ≤ L.m.n * 510
  sts : L.starts.length ≤ L.stream.length
  dur : L.m.base ≤ L.durable ∧ L.durable ≤ L.m.base + L.stream.length
def endQ (L : Lg) : Nat := L.m.base + L.stream.length
def roomQ (L : Lg) : Nat := if lastLSN ≤ endQ L then 0 else min (L.m.n * 510 - L.stream.length) (lastLSN - endQ L)
theorem LNone (h : Base) (p d : Nat) (W : LM) (L : Lg) : TrV Tryz.prog 32 [pv p] h (lgA p d W L) (.bool false) (lgA p d W L) := by
  refine K.enter Tryz.func32 rfl (Nat.le_of_ble_eq_true rfl) (fun F => ?_)
  unfold lgA lgV
  simp only [List.cons_append, List.nil_append]
  (repeat' (first | refine X.rq ?_ | (refine X.rc ?_ ?_ <;> intro hc <;> first | (exfalso; omega) | skip)))
  refine K.done (by first | exact Or.inl rfl | exact Or.inr rfl) rfl (by first | exact K.Base.le.refl _ | assumption) (H' := [_, _, _]) rfl ⟨rfl, rfl, rfl⟩
theorem LBase (h : Base) (p d : Nat) (W : LM) (L : Lg) : TrV Tryz.prog 12 [pv p] h (lgA p d W L) (n64 L.m.base) (lgA p d W L) := by
  refine K.enter Tryz.func12 rfl (Nat.le_of_ble_eq_true rfl) (fun F => ?_)
  (repeat' (first | refine X.rq ?_ | (refine X.rc ?_ ?_ <;> intro hc <;> first | (exfalso; omega) | skip)))
  refine K.l_callV (Fx.cal rfl) rfl (LNone h p d W L) (K.pp [0, 0, 0] rfl) rfl rfl ?_
  unfold lgA lgV
  simp only [List.cons_append, List.nil_append]
  (repeat' (first | refine X.rq ?_ | (refine X.rc ?_ ?_ <;> intro hc <;> first | (exfalso; omega) | skip)))
  refine K.done (by first | exact Or.inl rfl | exact Or.inr rfl) rfl (by first | exact K.Base.le.refl _ | assumption) (H' := [_, _, _]) rfl ⟨rfl, rfl, rfl⟩
theorem LDurable (h : Base) (p d : Nat) (W : LM) (L : Lg) : TrV Tryz.prog 14 [pv p] h (lgA p d W L) (n64 L.durable) (lgA p d W L) := by
  refine K.enter Tryz.func14 rfl (Nat.le_of_ble_eq_true rfl) (fun F => ?_)
  (repeat' (first | refine X.rq ?_ | (refine X.rc ?_ ?_ <;> intro hc <;> first | (exfalso; omega) | skip)))
  refine K.l_callV (Fx.cal rfl) rfl (LNone h p d W L) (K.pp [0, 0, 0] rfl) rfl rfl ?_
  unfold lgA lgV
  simp only [List.cons_append, List.nil_append]
  (repeat' (first | refine X.rq ?_ | (refine X.rc ?_ ?_ <;> intro hc <;> first | (exfalso; omega) | skip)))
  refine K.done (by first | exact Or.inl rfl | exact Or.inr rfl) rfl (by first | exact K.Base.le.refl _ | assumption) (H' := [_, _, _]) rfl ⟨rfl, rfl, rfl⟩
set_option maxHeartbeats 1000000 in
theorem LEnd0 (h : Base) (p d : Nat) (W : LM) (L : Lg) (h1 : L.m.n ≤ 8192) (h2 : L.m.base ≤ lastLSN) (h3 : L.stream.length ≤ L.m.n * 510) (hs : StrOk h W L.stream) : TrV Tryz.prog 13 [pv p] h (lgA p d W L) (n64 (endQ L)) (lgA p d W L) := by
  unfold lastLSN at h2
  obtain ⟨so, sc, hsv⟩ := hs.len
  refine K.enter Tryz.func13 rfl (Nat.le_of_ble_eq_true rfl) (fun F => ?_)
  (repeat' (first | refine X.rq ?_ | (refine X.rc ?_ ?_ <;> intro hc <;> first | (exfalso; omega) | skip)))
  refine K.l_callV (Fx.cal rfl) rfl (LNone h p d W L) (K.pp [0, 0, 0] rfl) rfl rfl ?_
  unfold lgA lgV endQ n64
  rw [hsv]
  simp only [List.cons_append, List.nil_append]
  rw [Int.natCast_add]
  (repeat' (first | refine X.rq ?_ | (refine X.rc ?_ ?_ <;> intro hc <;> first | (exfalso; omega) | skip)))
  refine X.draw ([blk p 34 [dv d, .int .i64 L.m.n, .int .u64 (L.m.base : Int), .int .u64 (L.m.check : Int), .int .u32 L.m.kept, .bool L.m.wiped, .slice so L.stream.length sc, bufV W.ar L.starts.length W.kr, .int .u64 (L.durable : Int)]]) [] (.pu 0 (.pu 1 (.pu 2 (.pu 3 (.pu 5 (.pu 6 (.pu 7 (.st 4 (.st 8 (.pu 9 (.pu 10 (.pu 11 (.pu 12 .nil))))))))))))) ?_ (hQ := by repeat (first | with_reducible refine K.NoPanic.then ?_ | with_reducible refine K.NoPanic.inBlock ?_ | with_reducible exact K.post_noPanic _ _ | exact K.post_noPanic _ _ | exact K.QN_noPanic | exact K.postS_noPanic | exact K.postX_noPanic | exact K.RPX_noPanic))
  refine K.d_pu rfl (fun _ _ => X.mv) rfl ?_
  refine K.d_pu rfl (fun _ _ => X.nc) rfl ?_
  refine K.d_pu rfl (fun _ _ => X.fa) rfl ?_
  refine K.d_pu rfl (fun _ _ => X.fa) rfl ?_
  refine K.d_pu rfl (fun _ _ => X.mv) rfl ?_
  refine K.d_pu rfl (fun _ _ => X.nc) rfl ?_
  refine K.d_pu rfl (fun _ _ => X.fa) rfl ?_
  refine K.d_st rfl X.ld rfl ?_
  refine K.d_st rfl X.ld rfl ?_
  refine K.d_pu rfl (fun _ _ => X.len) rfl ?_
  refine K.d_pu rfl (fun _ _ => X.cv) rfl ?_
  refine K.d_pu rfl (fun _ _ => X.badd) rfl ?_
  refine K.d_pu rfl (fun _ _ => X.sg) rfl ?_
  refine K.d_nil ?_
  (repeat' (first | refine X.rq ?_ | (refine X.rc ?_ ?_ <;> intro hc <;> first | (exfalso; omega) | skip)))
  refine K.done (by first | exact Or.inl rfl | exact Or.inr rfl) rfl (by first | exact K.Base.le.refl _ | assumption) (H' := [_, _, _]) rfl ⟨rfl, rfl, rfl⟩
theorem LEnd (h : Base) (p d : Nat) (W : LM) (L : Lg) (ho : LgOk L) (hs : StrOk h W L.stream) : TrV Tryz.prog 13 [pv p] h (lgA p d W L) (n64 (endQ L)) (lgA p d W L) := LEnd0 h p d W L ho.mas.n ho.base.2 ho.str hs
set_option maxHeartbeats 2000000 in
theorem LRoom (h : Base) (p d : Nat) (W : LM) (L : Lg) (ho : LgOk L) (hs : StrOk h W L.stream) : TrV Tryz.prog 17 [pv p] h (lgA p d W L) (.int .i64 (roomQ L)) (lgA p d W L) := by
  have h1 := ho.mas.n
  have h2 := ho.base
  have h3 := ho.str
  have he := LEnd h p d W L ho hs
  unfold lastLSN at h2
  obtain ⟨so, sc, hsv⟩ := hs.len
  refine K.enter Tryz.func17 rfl (Nat.le_of_ble_eq_true rfl) (fun F => ?_)
  (repeat' (first | refine X.rq ?_ | (refine X.rc ?_ ?_ <;> intro hc <;> first | (exfalso; omega) | skip)))
  refine K.l_callV (Fx.cal rfl) rfl (LNone h p d W L) (K.pp [0, 0, 0] rfl) rfl rfl ?_
  obtain ⟨en, hen⟩ : ∃ en, en = endQ L := ⟨_, rfl⟩
  have hen2 : en = L.m.base + L.stream.length := hen
  unfold roomQ
  rw [← hen] at he ⊢
  unfold lgA lgV n64 at he ⊢
  rw [hsv] at he ⊢
  unfold lastLSN
  simp only [List.cons_append, List.nil_append]
  (repeat' (first | refine X.rq ?_ | (refine X.rc ?_ ?_ <;> intro hc <;> first | (exfalso; omega) | skip)))
  refine X.draw ([blk p 34 [dv d, .int .i64 L.m.n, .int .u64 (L.m.base : Int), .int .u64 (L.m.check : Int), .int .u32 L.m.kept, .bool L.m.wiped, .slice so L.stream.length sc, bufV W.ar L.starts.length W.kr, .int .u64 (L.durable : Int)]]) [] (.pu 0 (.pu 1 (.pu 2 (.pu 3 (.pu 6 (.pu 7 (.pu 8 (.st 4 (.pu 5 (.st 9 (.pu 10 (.pu 11 (.pu 12 .nil))))))))))))) ?_ (hQ := by repeat (first | with_reducible refine K.NoPanic.then ?_ | with_reducible refine K.NoPanic.inBlock ?_ | with_reducible exact K.post_noPanic _ _ | exact K.post_noPanic _ _ | exact K.QN_noPanic | exact K.postS_noPanic | exact K.postX_noPanic | exact K.RPX_noPanic))
  refine K.d_pu rfl (fun _ _ => X.mv) rfl ?_
  refine K.d_pu rfl (fun _ _ => X.nc) rfl ?_
  refine K.d_pu rfl (fun _ _ => X.fa) rfl ?_
  refine K.d_pu rfl (fun _ _ => X.fa) rfl ?_
  refine K.d_pu rfl (fun _ _ => X.mv) rfl ?_
  refine K.d_pu rfl (fun _ _ => X.nc) rfl ?_
  refine K.d_pu rfl (fun _ _ => X.fa) rfl ?_
  refine K.d_st rfl X.ld rfl ?_
  refine K.d_pu rfl (fun _ _ => X.bmul) rfl ?_
  refine K.d_st rfl X.ld rfl ?_
  refine K.d_pu rfl (fun _ _ => X.len) rfl ?_
  refine K.d_pu rfl (fun _ _ => X.bsub) rfl ?_
  refine K.d_pu rfl (fun _ _ => X.sg) rfl ?_
  refine K.d_nil ?_
  (repeat' (first | refine X.rq ?_ | (refine X.rc ?_ ?_ <;> intro hc <;> first | (exfalso; omega) | skip)))
  refine K.l_callV (Fx.cal rfl) rfl he (K.pp [0, 0, 0] rfl) rfl rfl ?_
  simp only [List.set_cons_zero, List.set_cons_succ, List.eraseIdx_cons_zero, List.eraseIdx_cons_succ, List.cons_append, List.nil_append]
  (repeat' (first | refine X.rq ?_ | (refine X.rc ?_ ?_ <;> intro hc <;> first | (exfalso; omega) | skip)))
  · rw [if_pos (by omega)]
    refine K.done (by first | exact Or.inl rfl | exact Or.inr rfl) rfl (by first | exact K.Base.le.refl _ | assumption) (H' := [_, _, _]) rfl ⟨rfl, rfl, rfl⟩
  · have e : ((min (L.m.n * 510 - L.stream.length) (4611686018427387904 - en) : Nat) : Int) = 4611686018427387904 - (en : Int) := by omega
    rw [if_neg (by omega), e]
    refine K.done (by first | exact Or.inl rfl | exact Or.inr rfl) rfl (by first | exact K.Base.le.refl _ | assumption) (H' := [_, _, _]) rfl ⟨rfl, rfl, rfl⟩
  · have e : ((min (L.m.n * 510 - L.stream.length) (4611686018427387904 - en) : Nat) : Int) = (L.m.n : Int) * 510 - (L.stream.length : Int) := by omega
    rw [if_neg (by omega), e]
    refine K.done (by first | exact Or.inl rfl | exact Or.inr rfl) rfl (by first | exact K.Base.le.refl _ | assumption) (H' := [_, _, _]) rfl ⟨rfl, rfl, rfl⟩
end Go.Proofs.YtmcdaegaopfihaaGreat.Wl
end
