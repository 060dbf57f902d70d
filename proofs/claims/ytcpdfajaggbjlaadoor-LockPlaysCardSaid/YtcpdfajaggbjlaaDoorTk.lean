/-
  Somebody gives all back: the code's. Conditions: each theorem's own.
-/
import Derived.Test.YtcpdfajaggbjlaaDoorTj

namespace Go.K
set_option linter.unusedVariables false
section
variable {P : Program} {n : Nat} {E : Env} {h : Base} {t ty : TypeId} {ps : String} {af : Array Edge} {x : Operand}
variable {Q : Exit → Act → World → Prop} {H : List Asrt} {ops : Array Oper} {rest : List Oper}
theorem zero_cells (zs : List Value) (m : Nat) : (Builtin.zeroCells zs.toArray m).toList = (List.replicate m zs).flatten := by
  simp only [Builtin.zeroCells, Array.toList_map, Array.toList_range, List.size_toArray]
  induction m with
  | zero => simp
  | succ m ih =>
    rw [Nat.succ_mul, List.range_add, List.map_append, ih, List.replicate_succ', List.flatten_append, List.flatten_singleton]
    congr 1
    rw [List.map_map]
    refine List.ext_getElem? fun i => ?_
    rw [List.getElem?_map]
    by_cases hi : i < zs.length
    · rw [List.getElem?_range hi]
      have : (m * zs.length + i) % zs.length = i := by rw [Nat.add_comm, Nat.add_mul_mod_self_right, Nat.mod_eq_of_lt hi]
      simp [hi, this]
    · rw [List.getElem?_eq_none (by simpa using hi), List.getElem?_eq_none (by omega)]; rfl
/-- Elements of a row are cleared. -/
theorem l_clearR {e b o m c : Nat} {T : TypeId} {fz : Nat × Nat} {z : Value} {zs pre cs post : List Value} (hu : P.underlying t = some (.slice e)) (hz : zrOf P e = some z) (hzs : z.cells = zs.toArray) (h1 : ones zs = true) (hx : lkO E x = some (.slice (some ⟨b, o, none⟩) m c))
    (h0 : 0 < m) (hl : m * zs.length = cs.length) (ho : pre.length = o) (hf : Free fz (o + m * zs.length)) (hk : WL P n ops Q rest E h (blkF b T (pre ++ (List.replicate m zs).flatten ++ post) fz :: H)) :
    WL P n ops Q (⟨none, .call ⟨.builtin .clear, #[x], #[t]⟩, ty, ps, af, none⟩ :: rest) E h (blkF b T (pre ++ cs ++ post) fz :: H) :=
  ⟨fun ac w fa ok => wpList_plain rfl fun KK hK => by
    subst ho
    obtain ⟨m, rfl⟩ : ∃ k, m = k + 1 := ⟨m - 1, by omega⟩
    have hle : (List.replicate (m + 1) zs).flatten.length = (m + 1) * zs.length := by rw [K.flatten_len (s := zs.length) _ fun e he => by rw [(List.mem_replicate.1 he).2], List.length_replicate]
    obtain ⟨w', e1, ok'⟩ := Ok.storesF (P := P) (List.replicate (m + 1) zs).flatten pre cs post w (by rw [hle]; exact hl) (fun u hu => by
      obtain ⟨e, he, hue⟩ := List.mem_flatten.1 hu
      rw [(List.mem_replicate.1 he).2] at hue
      exact List.all_eq_true.1 h1 u hue) (by rw [hle]; exact hf) ok
    have e2 : (storeCells ⟨b, pre.length, none⟩ (List.replicate (m + 1) zs).flatten).run P w = .ok () w' := by rw [storeCells_at, Nat.add_zero]; exact e1
    have hzc : (Builtin.zeroCells z.cells (m + 1)).toList = (List.replicate (m + 1) zs).flatten := by rw [hzs, zero_cells]
    unfold Oper.wp
    have : (execOp ac.eval ⟨none, .call ⟨.builtin .clear, #[x], #[t]⟩, ty, ps, af, none⟩).run P w = .ok (.value (.tuple #[])) w' := by
      rw [show (#[x] : Array Operand) = [x].toArray from rfl, run_builtin (vals := [.slice (some ⟨b, pre.length, none⟩) (m + 1) c]) fa (by simp [evArgs, hx])]
      simp [builtin, Builtin.clear_, run_underlying hu, run_zero hz, hzc, e2]
    rw [this, Oper.upon_value]
    exact hK _ _ (hk.run _ _ fa ok')⟩
theorem Ok.roomBuf {T s m cap j : Nat} {a : Option Nat} {cs : List Value} {w : World} (hj : H[j]? = some (bufA T s a m cap cs)) (ok : Ok h H w) : m ≤ cap := by
  have := ok.sat.own _ (List.mem_of_getElem? hj)
  cases a with
  | none => obtain ⟨e, _, _⟩ := this; omega
  | some b => obtain ⟨_, _, _, _, _, g, _⟩ := this; exact g
theorem WL.roomBuf {L : List Oper} {T s m cap : Nat} {a : Option Nat} {cs : List Value} (j : Nat) (hj : H[j]? = some (bufA T s a m cap cs)) (hk : m ≤ cap → WL P n ops Q L E h H) : WL P n ops Q L E h H :=
  ⟨fun ac w fa ok => (hk (Ok.roomBuf hj ok)).run _ w fa ok⟩
end
end Go.K
namespace Go.Proofs.YtcpdfajaggbjlaaDoor.Lk
open Go Go.K Go.Proofs Go.Proofs.YtcpdfajaggbjlaaDoor
set_option linter.unusedVariables false
set_option linter.unusedSimpArgs false
set_option maxRecDepth 10000

def goneP (txn : Nat) (x : PLock) : Bool := decide (x.txn = txn)
def keepP (txn : Nat) (x : PLock) : Bool := !goneP txn x
abbrev zeroK : PLock := ⟨0, ⟨false, 0, noT, noT⟩, 0, false⟩
theorem Rel1 (h : Base) (B5 : Nat) (txn : Nat) (x : PLock) : TrV Tryd.prog 41 [.agg (cK x).toArray, .pointer (some ⟨B5, 0, none⟩)] h [blk B5 34 [.int .u32 txn]] (.bool (goneP txn x)) [blk B5 34 [.int .u32 txn]] := by
  refine K.enter Tryd.func41 rfl (Nat.le_of_ble_eq_true rfl) (fun F => ?_)
  simp only [List.nil_append, List.cons_append]
  (repeat' (first | refine X.rq ?_ | (refine X.rc ?_ ?_ <;> intro hc <;> first | (exfalso; omega) | skip)))
  refine K.l_box rfl rfl rfl (fun B2 => ?_)
  rw [goneP]
  have hdd : decide (x.txn = txn) = decide ((x.txn : Int) = (txn : Int)) := by rw [decide_eq_decide]; omega
  rw [hdd]
  (repeat' (first | refine X.rq ?_ | (refine X.rc ?_ ?_ <;> intro hc <;> first | (exfalso; omega) | skip)))
  refine K.AT.sel [0] rfl ?_
  refine K.done (by first | exact Or.inl rfl | exact Or.inr rfl) rfl (by first | exact K.Base.le.refl _ | assumption) (H' := [_]) rfl ⟨rfl, rfl, rfl⟩
theorem IdxA (h : Base) (B5 : Nat) (a : Option Nat) (k : Nat) (l : List PLock) (txn : Nat) (hl : l.length ≤ 1000000) :
    Tr Tryd.prog 59 [bufV a l.length k, .func (.func 41) #[] #[.pointer (some ⟨B5, 0, none⟩)]] h [rowsA a k l, blk B5 34 [.int .u32 txn]]
      (fun u h' H' => h' = h ∧ ∃ i : Int, u = .int .i64 i ∧ FirstK (fun j => ((l[j]?).map (goneP txn)).getD false) l.length i ∧ H' = [rowsA a k l, blk B5 34 [.int .u32 txn]]) := by
  have := K.Tr.borrow (P := Tryd.prog) (h := h) (f := 59) (args := [bufV a l.length k, .func (.func 41) #[] #[.pointer (some ⟨B5, 0, none⟩)]]) (A := [rowsA a k l]) (R := [blk B5 34 [.int .u32 txn]])
    (Q := fun u H1 => ∃ i : Int, u = .int .i64 i ∧ FirstK (fun j => ((l[j]?).map (goneP txn)).getD false) l.length i ∧ H1 = [blk B5 34 [.int .u32 txn]]) fun h' hle hs F w ok => by
      refine Calls.mono (IdxL h' [blk B5 34 [.int .u32 txn]] 41 [_] (Fx.cal rfl) _ l (fun j => ((l[j]?).map (goneP txn)).getD false) (rows_sl hs).k (by omega) (fun j x hx => by rw [hx]; exact Rel1 h' B5 txn x) F w ok)
        fun e w' ⟨u, he, h1, H1, hle1, ⟨i, q1, q2, q3, q4⟩, ok1⟩ => ⟨u, he, h1, H1, hle1, ⟨q3, i, q1, q2, q4⟩, ok1⟩
  exact fun F w ok => Calls.mono (this F w ok) fun e w' ⟨u, he, h1, H1, hle1, ⟨q1, H2, q2, i, q3, q4, q5⟩, ok1⟩ => ⟨u, he, h1, H1, hle1, ⟨q1, i, q3, q4, by rw [q2, q5]; rfl⟩, ok1⟩
structure DlS where
  j : Nat
  i : Nat
  c : List PLock
theorem seven_len (l : List PLock) : (l.map cK).flatten.length = l.length * 7 := by rw [K.flatten_len _ (seven l), List.length_map]
theorem ones_cK (x : PLock) : ones (cK x) = true := rfl
set_option maxHeartbeats 4000000 in
theorem DelL (h : Base) (B5 : Nat) (a : Option Nat) (k : Nat) (l : List PLock) (txn : Nat) (hl : l.length ≤ 1000000) :
    Tr Tryd.prog 40 [bufV a l.length k, .func (.func 41) #[] #[.pointer (some ⟨B5, 0, none⟩)]] h [rowsA a k l, blk B5 34 [.int .u32 txn]]
      (fun u h' H' => h' = h ∧ u = bufV a (l.filter (keepP txn)).length k ∧ H' = [rowsA a k (l.filter (keepP txn)), blk B5 34 [.int .u32 txn]]) := by
  refine K.enter Tryd.func40 rfl (Nat.le_of_ble_eq_true rfl) (fun F => ?_)
  simp only [List.nil_append, List.cons_append]
  (repeat' (first | refine X.rq ?_ | (refine X.rc ?_ ?_ <;> intro hc <;> first | (exfalso; omega) | skip)))
  refine K.l_call (Fx.cal rfl) rfl (IdxA h B5 a k l txn hl) (List.Perm.refl _) rfl ?_
  rintro u h' H' - ⟨e, i0, rfl, hi0, rfl⟩
  obtain rfl := e.symm
  simp only [List.nil_append, List.cons_append]
  rcases hi0 with ⟨rfl, hno⟩ | ⟨i, rfl, hil, hpi, hno⟩
  · have hall : l.filter (keepP txn) = l := List.filter_eq_self.2 fun x hx => by
      obtain ⟨j, hj⟩ := List.mem_iff_getElem?.1 hx
      have := hno j (List.getElem?_eq_some_iff.1 hj).1
      dsimp only at this
      rw [hj] at this
      have h2 : goneP txn x = false := this
      rw [keepP, h2]; rfl
    rw [hall]
    (repeat' (first | refine X.rq ?_ | (refine X.rc ?_ ?_ <;> intro hc <;> first | (exfalso; omega) | skip)))
    refine K.done (by first | exact Or.inl rfl | exact Or.inr rfl) rfl (by first | exact K.Base.le.refl _ | assumption) (H' := [_, _]) rfl ⟨rfl, rfl, rfl⟩
  · have h0 : (l.take (i + 1)).filter (keepP txn) = l.take i := by
      rw [List.take_succ_eq_append_getElem hil, List.filter_append]
      have h1 : (l.take i).filter (keepP txn) = l.take i := List.filter_eq_self.2 fun x hx => by
        obtain ⟨j, hj⟩ := List.mem_iff_getElem?.1 hx
        rw [List.getElem?_take] at hj
        split at hj
        · rename_i hji
          have := hno j hji
          dsimp only at this
          rw [hj] at this
          have h2 : goneP txn x = false := this
          rw [keepP, h2]; rfl
        · cases hj
      have h2 : goneP txn l[i] = true := by
        dsimp only at hpi
        rw [List.getElem?_eq_getElem hil] at hpi
        exact hpi
      rw [h1, List.filter_cons_of_neg (by rw [keepP, h2]; decide)]
      simp
    clear hpi hno
    refine K.WL.someBuf 0 rfl (by omega) (fun b hb' => ?_)
    subst hb'
    (repeat' (first | refine X.rq ?_ | (refine X.rc ?_ ?_ <;> intro hc <;> first | (exfalso; omega) | skip)))
    refine K.c_loop (σ := DlS) (fun s => [(0, bufV (some b) l.length k), (1, .func (.func 41) #[] #[.pointer (some ⟨B5, 0, none⟩)]), (5, .int .i64 s.i), (6, .int .i64 s.j)]) (fun _ => h)
      (fun s => bufA 46 7 (some b) l.length k (s.c.map cK).flatten :: blk B5 34 [.int .u32 txn] :: F)
      (fun s => s.i < s.j ∧ s.j ≤ l.length ∧ s.c.length = l.length ∧ s.c.take s.i = (l.take s.j).filter (keepP txn) ∧ ∀ m, s.j ≤ m → s.c[m]? = l[m]?) (fun s => l.length - s.j) ⟨i + 1, i, l⟩
      ⟨Nat.lt_succ_self _, hil, rfl, h0.symm, fun m _ => rfl⟩ (by repeat (first | exact K.Sub.nil _ | refine K.Sub.cons rfl ?_)) rfl rfl ?_
    clear h0 hil
    rintro ⟨j, i, c⟩ ⟨hij, hj, hcl, hta, hsa⟩ KL hKL
    dsimp only at hij hj hcl hta hsa ⊢
    have hsa := fun (_ : Unit) => hsa
    by_cases hjl : j < l.length
    · have hx1 : l[j]? = some l[j] := List.getElem?_eq_getElem hjl
      have hst : (l.take (j + 1)).filter (keepP txn) = (l.take j).filter (keepP txn) ++ (if keepP txn l[j] then [l[j]] else []) := by
        rw [List.take_succ_eq_append_getElem hjl, List.filter_append, List.filter_cons, List.filter_nil]

      generalize l[j] = x at hx1 hst
      have hc1 := (hsa () j (Nat.le_refl _)).trans hx1
      have hc0 : (c.map cK)[j]? = some (cK x) := by rw [List.getElem?_map, hc1]; rfl
      (repeat' (first | refine X.rq ?_ | (refine X.rc ?_ ?_ <;> intro hc <;> first | (exfalso; omega) | skip)))
      refine K.s_pure (K.p_loadM (Fx.agg rfl) rfl (by rw [Nat.zero_add]; exact K.cels_rowZ 0 rfl (seven c) hc0) (Fx.sz rfl) rfl) rfl ?_
      refine K.l_alloc (Fx.zr rfl) rfl rfl (fun B7 => ?_)
      (repeat' (first | refine X.rq ?_ | (refine X.rc ?_ ?_ <;> intro hc <;> first | (exfalso; omega) | skip)))
      refine X.stw ?_
      simp only [List.set_cons_zero, List.set_cons_succ, List.eraseIdx_cons_zero, List.eraseIdx_cons_succ, List.cons_append, List.nil_append]
      (repeat' (first | refine X.rq ?_ | (refine X.rc ?_ ?_ <;> intro hc <;> first | (exfalso; omega) | skip)))
      refine K.l_callF (vals := [.agg (cK x).toArray]) (Fx.cal rfl) rfl rfl (Rel1 h B5 txn x) (K.pp [2] rfl) rfl ?_
      rintro u h' H' - ⟨rfl, e, rfl⟩
      obtain rfl := e.symm
      simp only [List.nil_append, List.cons_append]
      have hkp : keepP txn x = !goneP txn x := rfl
      cases hg : goneP txn x with
      | true =>
        rw [hkp, hg, Bool.not_true, if_neg (by decide), List.append_nil] at hst
        (repeat' (first | refine X.rq ?_ | (refine X.rc ?_ ?_ <;> intro hc <;> first | (exfalso; omega) | skip)))
        refine K.AT.sel [1] rfl ?_
        refine K.AT.perm (K.pp [1] rfl) ?_
        refine K.a_round hKL ⟨j + 1, i, c⟩ ⟨by dsimp only; omega, by dsimp only; omega, hcl, hta.trans hst.symm, fun m hm => hsa () m (by dsimp only at hm; omega)⟩ (by repeat (first | exact K.Sub.nil _ | refine K.Sub.cons rfl ?_)) rfl rfl (by dsimp only; omega)
      | false =>
        rw [hkp, hg, Bool.not_false, if_pos rfl] at hst
        have hz1 : c[i]? = some (c[i]'(by omega)) := List.getElem?_eq_getElem (by omega)
        generalize c[i]'(by omega) = z at hz1
        have hcs : (c.set i x).take (i + 1) = c.take i ++ [x] := by
          rw [List.take_succ_eq_append_getElem (by rw [List.length_set]; omega), List.take_set_of_le (Nat.le_refl _), List.getElem_set_self]
        (repeat' (first | refine X.rq ?_ | (refine X.rc ?_ ?_ <;> intro hc <;> first | (exfalso; omega) | skip)))
        refine K.l_storePart (i := i) (c1 := []) (c2 := cK z) (c3 := []) (us := cK x) 2 rfl (Fx.sz rfl) (by show some (Value.pointer (some ⟨b, 0 + ((i : Nat) : Int).toNat * 7, none⟩)) = _; rw [Nat.zero_add]; rfl) rfl rfl (seven c) (by rw [List.append_nil, List.nil_append, List.getElem?_map, hz1]; rfl) rfl ?_
        rw [List.append_nil, List.nil_append, ← List.map_set]
        simp only [List.set_cons_zero, List.set_cons_succ, List.eraseIdx_cons_zero, List.eraseIdx_cons_succ, List.cons_append, List.nil_append]
        (repeat' (first | refine X.rq ?_ | (refine X.rc ?_ ?_ <;> intro hc <;> first | (exfalso; omega) | skip)))
        refine K.AT.sel [1] rfl ?_
        refine K.AT.perm (K.pp [1] rfl) ?_
        refine K.a_round hKL ⟨j + 1, i + 1, c.set i x⟩ ⟨by dsimp only; omega, by dsimp only; omega, by dsimp only; rw [List.length_set]; exact hcl, by dsimp only; rw [hcs, hta, hst], fun m hm => ?_⟩ (by repeat (first | exact K.Sub.nil _ | refine K.Sub.cons rfl ?_)) rfl rfl (by dsimp only; omega)
        dsimp only at hm ⊢
        rw [List.getElem?_set_ne (by omega)]
        exact hsa () m (by omega)
    · obtain rfl : j = l.length := by omega
      rw [List.take_length] at hta
      clear hsa
      (repeat' (first | refine X.rq ?_ | (refine X.rc ?_ ?_ <;> intro hc <;> first | (exfalso; omega) | skip)))
      refine K.WL.roomBuf 0 rfl (fun hroom => ?_)
      refine K.s_pure (K.p_slice (k2 := .i64) (l := i) (u := l.length) (ao := some ⟨b, i * 7, none⟩) (Fx.und rfl) (Fx.sz rfl) rfl ⟨(i : Int), rfl, rfl⟩ rfl (by omega) (by omega) (by rw [if_neg (by omega)]; simp)) rfl ?_
      refine K.WL.openBuf (fun sp fz g2 g3 g4 g5 g6 => ?_)
      have hct : (c.take i).length = i := by rw [List.length_take]; omega
      rw [show (c.map cK).flatten = ((c.take i).map cK).flatten ++ ((c.drop i).map cK).flatten from by rw [← List.flatten_append, ← List.map_append, List.take_append_drop]]
      rw [seven_len] at g2
      rw [List.length_append, seven_len] at g3
      refine K.l_clearR (zs := cK zeroK) (Fx.und rfl) (Fx.zr rfl) rfl rfl rfl (by omega) (by rw [seven_len, List.length_drop]; show (l.length - i) * 7 = _; omega) (by rw [seven_len, hct]) (fun o ho => g6 o (by change o < i * 7 + (l.length - i) * 7 at ho; omega)) ?_
      have hzl : (List.replicate (l.length - i) (cK zeroK)).flatten.length = (l.length - i) * 7 := by rw [K.flatten_len (s := 7) _ fun e he => by rw [(List.mem_replicate.1 he).2]; rfl, List.length_replicate]
      rw [List.append_assoc]
      refine K.WL.shut (m := i) (cap := k) (by rw [seven_len, hct]) (by rw [List.length_append, List.length_append, hzl, seven_len, hct]; omega) (by omega) g5 g6 ?_
      (repeat' (first | refine X.rq ?_ | (refine X.rc ?_ ?_ <;> intro hc <;> first | (exfalso; omega) | skip)))
      refine K.s_pure (K.p_sliceU (Fx.und rfl) (Fx.sz rfl) rfl rfl rfl (show i ≤ k by omega)) rfl ?_
      (repeat' (first | refine X.rq ?_ | (refine X.rc ?_ ?_ <;> intro hc <;> first | (exfalso; omega) | skip)))
      rw [hta] at hct ⊢
      rw [← hct]
      refine K.done (by first | exact Or.inl rfl | exact Or.inr rfl) rfl (by first | exact K.Base.le.refl _ | assumption) (H' := [_, _]) rfl ⟨rfl, rfl, rfl⟩
end Go.Proofs.YtcpdfajaggbjlaaDoor.Lk
