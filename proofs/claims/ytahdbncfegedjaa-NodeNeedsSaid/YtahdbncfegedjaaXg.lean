/-
  Trees of pages: the first entry that is not below a text. Conditions: each theorem's own.
-/
import Derived.Test.YtahdbncfegedjaaXf

namespace Go.Proofs.Ytahdbncfegedjaa.Nd
open Go Go.K Go.Proofs Go.Proofs.Ytahdbncfegedjaa Go.Proofs.Ytahdbncfegedjaa.Pg
set_option linter.unusedVariables false
set_option linter.unusedSimpArgs false
set_option maxRecDepth 10000

def fidx : Option Nat → Int
  | none => -1
  | some j => j
theorem findIdx_at {α : Type} {q : α → Bool} : ∀ {l : List α} {j : Nat} {x : α}, l[j]? = some x → q x = true → (∀ (i : Nat) y, i < j → l[i]? = some y → q y = false) → l.findIdx? q = some j
  | [], j, x, hj, _, _ => by simp at hj
  | y :: l, 0, x, hj, hx, _ => by simp at hj; subst hj; rw [List.findIdx?_cons, hx]; rfl
  | y :: l, j + 1, x, hj, hx, hno => by
    have h0 := hno 0 y (by omega) rfl
    rw [List.findIdx?_cons, h0, findIdx_at (l := l) (by simpa using hj) hx fun i z hi hz => hno (i + 1) z (by omega) (by simpa using hz)]
    rfl
theorem findIdx_no {α : Type} {q : α → Bool} {l : List α} (h : ∀ (i : Nat) y, l[i]? = some y → q y = false) : l.findIdx? q = none := by
  rw [List.findIdx?_eq_none_iff]
  intro x hx
  obtain ⟨i, hi⟩ := List.mem_iff_getElem?.1 hx
  exact h i x hi
theorem IdxCell (h : Base) (KK : List Asrt) (f : FuncId) (caps : List Value) (hcal : Callable Try.prog f) (v : Value) (l : List PCell) (q : PCell → Bool) (hv : CellsV h v l) (hl : l.length ≤ 9223372036854775807)
    (hp : ∀ c x, CellC h c x → TrV Try.prog f (.agg c.toArray :: caps) h KK (.bool (q x)) KK) :
    Tr Try.prog 33 [v, .func (.func f) #[] caps.toArray] h KK (fun u h' H' => u = .int .i64 (fidx (l.findIdx? q)) ∧ h' = h ∧ H' = KK) := by
  obtain ⟨es, hv, hel, hr⟩ := hv
  obtain ⟨ao, ca, rfl⟩ := hv.len
  rw [hel] at hv ⊢
  refine K.enter Try.func33 rfl (Nat.le_of_ble_eq_true rfl) (fun F => ?_)
  (repeat' (first | refine X.rq ?_ | (refine X.rc ?_ ?_ <;> intro hc <;> first | (exfalso; omega) | skip)))
  refine K.c_loop (σ := Nat) (fun j => [(0, .slice ao l.length ca), (1, .func (.func f) #[] caps.toArray), (6, .slice ao l.length ca), (7, .int .i64 l.length), (8, .int .i64 j)]) (fun _ => h) (fun _ => KK ++ F)
    (fun j => j ≤ l.length ∧ ∀ (i : Nat) y, i < j → l[i]? = some y → q y = false) (fun j => l.length - j) 0 ⟨Nat.zero_le _, fun i y hi => by omega⟩ (by repeat (first | exact K.Sub.nil _ | refine K.Sub.cons rfl ?_)) rfl rfl ?_
  rintro j ⟨hj, hno⟩ KL hKL
  by_cases hjl : j < l.length
  · have hc1 : es[j]? = some (es[j]'(by omega)) := List.getElem?_eq_getElem (by omega)
    have hc0 : es[((j : Nat) : Int).toNat]? = some (es[j]'(by omega)) := by rw [Int.toNat_natCast]; exact hc1
    have he1 : l[j]? = some l[j] := List.getElem?_eq_getElem hjl
    generalize es[j]'(by omega) = c at hc0 hc1
    generalize l[j] = x at he1
    have hcc := hr j c x hc1 he1
    have hpx := hp c x hcc
    obtain ⟨hkl, hdl, ao3, ca3, rfl, hbv⟩ := hcc
    (repeat' (first | refine X.rq ?_ | (refine X.rc ?_ ?_ <;> intro hc <;> first | (exfalso; omega) | skip)))
    refine K.s_pureE (K.p_indexL hv (Fx.und rfl) (Fx.sz rfl) rfl rfl (by omega) hc0) rfl ?_
    rintro v2 ⟨b, o, rfl, hcel⟩
    refine K.s_pure (K.p_loadM (Fx.agg rfl) rfl (Cels.up hcel) (Fx.sz rfl) rfl) rfl ?_
    refine K.l_callF (caps := caps) (vals := [.agg #[.bool x.used, .int .u32 x.killer, .slice ao3 x.data.length ca3]]) hcal rfl rfl (by exact hpx) (List.Perm.refl _) rfl ?_
    rintro u h' H' - ⟨rfl, e, rfl⟩
    obtain rfl := e.symm
    cases hpj : q x with
    | true =>
      (repeat' (first | refine X.rq ?_ | (refine X.rc ?_ ?_ <;> intro hc <;> first | (exfalso; omega) | skip)))
      rw [findIdx_at he1 hpj hno]
      refine K.done (by first | exact Or.inl rfl | exact Or.inr rfl) rfl (by first | exact K.Base.le.refl _ | assumption) (H' := H') rfl ⟨rfl, rfl, rfl⟩
    | false =>
      (repeat' (first | refine X.rq ?_ | (refine X.rc ?_ ?_ <;> intro hc <;> first | (exfalso; omega) | skip)))
      refine K.a_round hKL (j + 1) ⟨by omega, fun i y hi hy => ?_⟩ (by repeat (first | exact K.Sub.nil _ | refine K.Sub.cons rfl ?_)) rfl rfl (by omega)
      by_cases hij : i < j
      · exact hno i y hij hy
      · obtain rfl : i = j := by omega
        rw [he1] at hy; cases hy; exact hpj
  · obtain rfl : j = l.length := by omega
    (repeat' (first | refine X.rq ?_ | (refine X.rc ?_ ?_ <;> intro hc <;> first | (exfalso; omega) | skip)))
    rw [findIdx_no fun i y hy => hno i y (List.getElem?_eq_some_iff.1 hy).1 hy]
    refine K.done (by first | exact Or.inl rfl | exact Or.inr rfl) rfl (by first | exact K.Base.le.refl _ | assumption) (H' := KK) rfl ⟨rfl, rfl, rfl⟩
theorem fidx_any {l : List PCell} {q : PCell → Bool} : decide (0 ≤ fidx (l.findIdx? q)) = l.any q := by
  cases h : l.findIdx? q with
  | none =>
    rw [List.findIdx?_eq_none_iff] at h
    rw [List.any_eq_false.2 fun x hx => by simp [h x hx]]; rfl
  | some j =>
    have := List.findIdx?_eq_some_iff_getElem.1 h
    obtain ⟨hj, hx, _⟩ := this
    rw [List.any_eq_true.2 ⟨_, List.getElem_mem hj, hx⟩]
    exact decide_eq_true (by simp [fidx])
theorem CtnCell (h : Base) (KK : List Asrt) (f : FuncId) (caps : List Value) (hcal : Callable Try.prog f) (v : Value) (l : List PCell) (q : PCell → Bool) (hv : CellsV h v l) (hl : l.length ≤ 9223372036854775807)
    (hp : ∀ c x, CellC h c x → TrV Try.prog f (.agg c.toArray :: caps) h KK (.bool (q x)) KK) :
    TrV Try.prog 61 [v, .func (.func f) #[] caps.toArray] h KK (.bool (l.any q)) KK := by
  refine K.enter Try.func61 rfl (Nat.le_of_ble_eq_true rfl) (fun F => ?_)
  (repeat' (first | refine X.rq ?_ | (refine X.rc ?_ ?_ <;> intro hc <;> first | (exfalso; omega) | skip)))
  refine K.l_call (Fx.cal rfl) rfl (IdxCell h KK f caps hcal v l q hv hl hp) (List.Perm.refl _) rfl ?_
  rintro u h' H' - ⟨rfl, e, rfl⟩
  obtain rfl := e.symm
  rw [← fidx_any]
  (repeat' (first | refine X.rq ?_ | (refine X.rc ?_ ?_ <;> intro hc <;> first | (exfalso; omega) | skip)))
  refine K.done (by first | exact Or.inl rfl | exact Or.inr rfl) rfl (by first | exact K.Base.le.refl _ | assumption) (H' := H') rfl ⟨rfl, rfl, rfl⟩
theorem SeekCC (h : Base) (c : List Value) (x : PCell) (s : List UInt8) (B : Nat) (hx : CellC h c x) : TrV Try.prog 34 [.agg c.toArray, .pointer (some ⟨B, 0, none⟩)] h [blk B 9 [txt s]] (.bool (!lt8 x.data s)) [blk B 9 [txt s]] := by
  obtain ⟨hkl, hdl, ao3, ca3, rfl, hbv⟩ := hx
  refine K.enter Try.func34 rfl (Nat.le_of_ble_eq_true rfl) (fun F => ?_)
  (repeat' (first | refine X.rq ?_ | (refine X.rc ?_ ?_ <;> intro hc <;> first | (exfalso; omega) | skip)))
  refine K.l_box rfl rfl rfl (fun B2 => ?_)
  (repeat' (first | refine X.rq ?_ | (refine X.rc ?_ ?_ <;> intro hc <;> first | (exfalso; omega) | skip)))
  refine K.s_pure (K.p_textB hbv (Fx.und rfl) (Fx.und rfl) (Fx.und rfl) rfl) rfl ?_
  (repeat' (first | refine X.rq ?_ | (refine X.rc ?_ ?_ <;> intro hc <;> first | (exfalso; omega) | skip)))
  rw [txt_lt]
  refine K.AT.drop ?_
  refine K.done (by first | exact Or.inl rfl | exact Or.inr rfl) rfl (by first | exact K.Base.le.refl _ | assumption) (H' := [_]) rfl ⟨rfl, rfl, rfl⟩

/-! ### From leaf to leaf -/
def seekL (G : Option GetQ) (s : List UInt8) : Nat → Nat → Except Int (Nat × Int)
  | k, n => if n = 0 then .error 6 else match pageQ G n with
    | .error e => .error e
    | .ok p => if p.kind ≠ 2 then .error 5 else match k with
      | 0 => .error 5
      | k + 1 => match p.cells.findIdx? fun c => !lt8 c.data s with
        | some i => .ok (n, i)
        | none => seekL G s k p.next
def seekW (G : Option GetQ) (root : Nat) (s : List UInt8) : Except Int (Nat × Int) := match wayQ G s 7 root with
  | .error e => .error e
  | .ok l => seekL G s 8192 (l.getLastD 0)
def seekQ (G : Option GetQ) (root : Nat) (s : List UInt8) : Except Int (Nat × Int) := if root = 0 then .error 1 else seekW G root s
theorem seek_nil {G : Option GetQ} {s : List UInt8} {k : Nat} : seekL G s k 0 = .error 6 := by unfold seekL; rfl
theorem seek_err {G : Option GetQ} {s : List UInt8} {k n : Nat} {e : Int} (hn : ¬ n = 0) (h : pageQ G n = .error e) : seekL G s k n = .error e := by unfold seekL; rw [if_neg hn, h]
theorem seek_kind {G : Option GetQ} {s : List UInt8} {k n : Nat} {p : Pag} (hn : ¬ n = 0) (h : pageQ G n = .ok p) (h2 : ¬ (p.kind = 2 ∧ 0 < k)) : seekL G s k n = .error 5 := by
  unfold seekL
  rw [if_neg hn, h]
  dsimp only
  by_cases hk : p.kind = 2
  · rw [if_neg (by simp [hk])]
    cases k with
    | zero => rfl
    | succ k => exact absurd ⟨hk, by omega⟩ h2
  · rw [if_pos hk]
theorem seek_page {G : Option GetQ} {s : List UInt8} {k n : Nat} {p : Pag} (hn : ¬ n = 0) (h : pageQ G n = .ok p) (hk : p.kind = 2) : seekL G s (k + 1) n = match p.cells.findIdx? fun c => !lt8 c.data s with
        | some i => .ok (n, i)
        | none => seekL G s k p.next := by
  rw [seekL, if_neg hn, h]
  dsimp only
  rw [if_neg (by simp [hk])]
theorem way_ne {G : Option GetQ} {s : List UInt8} {k n : Nat} {l : List Nat} (h : wayQ G s k n = .ok l) : l ≠ [] := by
  cases k <;> unfold wayQ at h <;> split at h
  · cases h
  · split at h
    · cases h; simp
    · cases h
  · cases h
  · split at h
    · cases h; simp
    · dsimp only at h
      split at h
      · cases h
      · cases h; simp
theorem way_len {G : Option GetQ} {s : List UInt8} : ∀ {k n : Nat} {l : List Nat}, wayQ G s k n = .ok l → l.length ≤ k + 1
  | 0, n, l, h => by
    unfold wayQ at h
    split at h
    · cases h
    · split at h
      · cases h; simp
      · cases h
  | k + 1, n, l, h => by
    unfold wayQ at h
    split at h
    · cases h
    · split at h
      · cases h; simp
      · dsimp only at h
        split at h
        · cases h
        · rename_i l' hl
          cases h
          have := way_len hl
          simp; omega
structure SeS where
  n : Nat
  i : Nat
set_option maxHeartbeats 4000000 in
theorem SeekC (h : Base) (gv : Value) (G : Option GetQ) (root : Nat) (s : List UInt8) (B0 B1 B2 : Nat) (hg : GetV h gv G) (hroot : root < 4294967296) :
    TrX Try.prog 30 [.pointer (some ⟨B0, 0, none⟩), .pointer (some ⟨B1, 0, none⟩), .pointer (some ⟨B2, 0, none⟩)] h [blk B0 61 [gv], blk B1 23 [uV root], blk B2 9 [txt s]]
      (fun v h' H' => ∃ r, seekW G root s = .ok r ∧ (H' = [] ∧ r.1 < 4294967296 ∧ v = .agg (plV r.1 r.2).toArray)) (UpE (seekW G root s)) := by
  refine K.enterX Try.func30 rfl (Nat.le_of_ble_eq_true rfl) (fun F => ?_)
  simp only [List.cons_append, List.nil_append]
  (repeat' (first | refine X.rq ?_ | (refine X.rc ?_ ?_ <;> intro hc <;> first | (exfalso; omega) | skip)))
  refine K.l_alloc (Fx.zr rfl) rfl rfl (fun B3 => ?_)
  (repeat' (first | refine X.rq ?_ | (refine X.rc ?_ ?_ <;> intro hc <;> first | (exfalso; omega) | skip)))
  refine K.l_callX (Fx.cal rfl) rfl (PPath h gv G root s hg hroot) (K.pp [] rfl) rfl ?_ ?_
  · rintro v h' H' hle ⟨rfl, e, rfl, he⟩
    repeat (first | with_reducible refine K.a_then_panic ?_ | with_reducible refine K.a_block_panic ?_)
    refine K.upXD (D := [_, _, _, _]) (H' := []) hle rfl ⟨rfl, e, rfl, ?_⟩
    rw [seekW, he]
  rintro v h1 H' hle1 ⟨rfl, l, hq, hu⟩
  have hne := way_ne hq
  obtain ⟨ao, ca, rfl⟩ := hu.1.len
  rw [List.length_map] at hu ⊢
  have hsw : seekW G root s = seekL G s 8192 (l.getLastD 0) := by rw [seekW, hq]
  have hl1 := way_len hq
  have hl0 : 0 < l.length := List.length_pos_iff.2 hne
  have hlast : (l.map fun n => [uV n])[((l.length : Int) - 1).toNat]? = some [uV (l.getLastD 0)] := by
    rw [List.getElem?_map, show ((l.length : Int) - 1).toNat = l.length - 1 by omega, ← List.getLast?_eq_getElem?, List.getLastD_eq_getLast?]
    cases hx : l.getLast? with
    | none => rw [List.getLast?_eq_none_iff] at hx; exact absurd hx hne
    | some x => rfl
  have hlb : l.getLastD 0 < 4294967296 := by
    rw [List.getLastD_eq_getLast?]
    cases hx : l.getLast? with
    | none => decide
    | some x => exact hu.2 x (List.mem_of_getLast? hx)
  simp only [List.set_cons_zero, List.set_cons_succ, List.eraseIdx_cons_zero, List.eraseIdx_cons_succ, List.cons_append, List.nil_append]
  (repeat' (first | refine X.rq ?_ | (refine X.rc ?_ ?_ <;> intro hc <;> first | (exfalso; omega) | skip)))
  refine K.s_pureE (K.p_indexL hu.1 (Fx.und rfl) (Fx.sz rfl) rfl rfl (by omega) hlast) rfl ?_
  rintro v2 ⟨b, o, rfl, hcel⟩
  have hq1 := (Cels.up (K := blk B3 67 (plV 0 0) :: blk B0 61 [gv] :: blk B1 23 [uV root] :: blk B2 9 [txt s] :: F) hcel).1
  refine K.s_pure (K.p_load (Fx.agg rfl) rfl hq1) rfl ?_
  (repeat' (first | refine X.rq ?_ | (refine X.rc ?_ ?_ <;> intro hc <;> first | (exfalso; omega) | skip)))
  refine K.c_loop (σ := SeS) (fun q => [(0, .pointer (some ⟨B0, 0, none⟩)), (2, .pointer (some ⟨B2, 0, none⟩)), (3, .pointer (some ⟨B3, 0, none⟩)), (5, uV q.n), (6, .int .i64 q.i)]) (fun _ => h1) (fun q => blk B3 67 (plV 0 0) :: blk B0 61 [gv] :: blk B1 23 [uV root] :: blk B2 9 [txt s] :: F)
    (fun q => q.n < 4294967296 ∧ q.i ≤ 8192 ∧ seekW G root s = seekL G s (8192 - q.i) q.n) (fun q => 8193 - q.i) ⟨l.getLastD 0, 0⟩ ⟨hlb, Nat.zero_le _, hsw⟩ (by repeat (first | exact K.Sub.nil _ | refine K.Sub.cons rfl ?_)) rfl rfl ?_
  clear hsw hq1 hcel hlast
  rintro ⟨n, i⟩ ⟨hn, hi, hsw⟩ KL hKL
  simp only at hn hi hsw ⊢
  by_cases hn0 : n = 0
  · subst hn0
    (repeat' (first | refine X.rq ?_ | (refine X.rc ?_ ?_ <;> intro hc <;> first | (exfalso; omega) | skip)))
    refine K.s_pure (K.p_mkI Try.underlying75 rfl rfl) rfl ?_
    refine K.l_panic rfl ?_
    exact K.upXD (D := [_, _, _, _]) (H' := []) hle1 rfl ⟨rfl, 6, rfl, by rw [hsw, seek_nil]⟩
  (repeat' (first | refine X.rq ?_ | (refine X.rc ?_ ?_ <;> intro hc <;> first | (exfalso; omega) | skip)))
  refine K.l_callX (Fx.cal rfl) rfl (PGPage h1 gv G n (hg.le hle1) hn) (K.pp [] rfl) rfl ?_ ?_
  · rintro v h' H' hle ⟨rfl, e, rfl, he⟩
    repeat (first | with_reducible refine K.a_then_panic ?_ | with_reducible refine K.a_block_panic ?_)
    exact K.upXD (D := [_, _, _, _]) (H' := []) (hle1.trans hle) rfl ⟨rfl, e, rfl, by rw [hsw, seek_err hn0 he]⟩
  rintro v h' H' - ⟨e, rfl, p, cs, rfl, hpc, hpq⟩
  obtain rfl := e.symm
  have hpc0 := hpc
  obtain ⟨hw, cv, rfl, hcv⟩ := hpc
  have hcv0 := hcv
  obtain ⟨ef, hsl, hel, hcs⟩ := hcv
  obtain ⟨ao2, ca2, rfl⟩ := hsl.len
  rw [hel] at hsl hpc0 hcv0 ⊢
  refine K.l_alloc (Fx.zr rfl) rfl rfl (fun B7 => ?_)
  refine X.stw ?_
  simp only [List.set_cons_zero, List.set_cons_succ, List.eraseIdx_cons_zero, List.eraseIdx_cons_succ, List.cons_append, List.nil_append]
  (repeat' (first | refine X.rq ?_ | (refine X.rc ?_ ?_ <;> intro hc <;> first | (exfalso; omega) | skip)))
  · have hk : p.kind = 2 := by assumption
    refine K.l_callX (Fx.cal rfl) rfl (Need h1 _ 5) (K.pp [] rfl) rfl ?_ ?_
    · rintro v h' H' hle ⟨e, rfl, e1, rfl⟩
      have e1 := of_decide_eq_false e1
      repeat (first | with_reducible refine K.a_then_panic ?_ | with_reducible refine K.a_block_panic ?_)
      exact K.upXD (D := [_, _, _, _, _]) (H' := []) (hle1.trans hle) rfl ⟨rfl, 5, rfl, by rw [hsw, seek_kind hn0 hpq (by omega)]⟩
    rintro v h' H' - ⟨e, rfl, e1⟩
    obtain rfl := e.symm
    have e1 := of_decide_eq_true e1
    rw [show 8192 - i = (8192 - (i + 1)) + 1 by omega, seek_page hn0 hpq hk] at hsw
    have hlc := hw.len
    simp only [List.set_cons_zero, List.set_cons_succ, List.eraseIdx_cons_zero, List.eraseIdx_cons_succ, List.cons_append, List.nil_append]
    (repeat' (first | refine X.rq ?_ | (refine X.rc ?_ ?_ <;> intro hc <;> first | (exfalso; omega) | skip)))
    refine K.s_pure (K.p_makeFunc rfl) rfl ?_
    refine K.l_call (Fx.cal rfl) rfl (IdxCell h1 [blk B2 9 [txt s]] 34 [.pointer (some ⟨B2, 0, none⟩)] (Fx.cal rfl) _ p.cells (fun c => !lt8 c.data s) hcv0 hlc (fun c x hx => SeekCC h1 c x s B2 hx)) (K.pp [4] rfl) rfl ?_
    rintro v h' H' - ⟨rfl, e, rfl⟩
    obtain rfl := e.symm
    simp only [List.set_cons_zero, List.set_cons_succ, List.eraseIdx_cons_zero, List.eraseIdx_cons_succ, List.cons_append, List.nil_append]
    cases hf : p.cells.findIdx? (fun c => !lt8 c.data s) with
    | some at_ =>
      rw [hf] at hsw
      have hat := (List.findIdx?_eq_some_iff_getElem.1 hf).1
      simp only [fidx]
      (repeat' (first | refine X.rq ?_ | (refine X.rc ?_ ?_ <;> intro hc <;> first | (exfalso; omega) | skip)))
      refine X.stw ?_
      simp only [List.set_cons_zero, List.set_cons_succ, List.eraseIdx_cons_zero, List.eraseIdx_cons_succ, List.cons_append, List.nil_append]
      (repeat' (first | refine X.rq ?_ | (refine X.rc ?_ ?_ <;> intro hc <;> first | (exfalso; omega) | skip)))
      skip
      exact K.doneXC (vs := [.agg (plV n at_).toArray]) (by first | exact Or.inl rfl | exact Or.inr rfl) (.cell rfl (Fx.agg rfl) (Fx.sz rfl) (K.cels_own (pre := []) (post := []) 2 rfl rfl) .nil) hle1 (D := [_, _, _, _, _]) (H' := []) rfl ⟨_, hsw, rfl, hn, rfl⟩
    | none =>
      rw [hf] at hsw
      simp only [fidx]
      (repeat' (first | refine X.rq ?_ | (refine X.rc ?_ ?_ <;> intro hc <;> first | (exfalso; omega) | skip)))
      refine K.AT.sel [1] rfl ?_
      refine K.AT.perm (K.pp [1, 1, 1, 0] rfl) ?_
      refine K.a_round hKL ⟨p.next, i + 1⟩ ⟨hw.next, by dsimp only; omega, hsw⟩ (by repeat (first | exact K.Sub.nil _ | refine K.Sub.cons rfl ?_)) rfl rfl (by dsimp only; omega)
  · have hk : ¬ p.kind = 2 := by assumption
    refine K.l_callX (Fx.cal rfl) rfl (Need h1 _ 5) (K.pp [] rfl) rfl ?_ ?_
    · rintro v h' H' hle ⟨e, rfl, e1, rfl⟩
      repeat (first | with_reducible refine K.a_then_panic ?_ | with_reducible refine K.a_block_panic ?_)
      exact K.upXD (D := [_, _, _, _, _]) (H' := []) (hle1.trans hle) rfl ⟨rfl, 5, rfl, by rw [hsw, seek_kind hn0 hpq (fun h => hk h.1)]⟩
    rintro v h' H' - ⟨e, rfl, e1⟩
    cases e1
end Go.Proofs.Ytahdbncfegedjaa.Nd
