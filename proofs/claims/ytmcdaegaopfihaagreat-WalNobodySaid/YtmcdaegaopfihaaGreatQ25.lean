/-
  Texts joined: Ab Ad. Conditions: each theorem's own.
-/
import Derived.Test.YtmcdaegaopfihaaGreatQ24
import Derived.Test.YtmcdaegaopfihaaGreatQ9
section
namespace Go.Proofs.YtmcdaegaopfihaaGreat.Wl
open Go Go.K Go.Proofs Go.Proofs.YtmcdaegaopfihaaGreat Go.Proofs.YtmcdaegaopfihaaGreat.Cc Go.Proofs.YtmcdaegaopfihaaGreat.Rc
set_option linter.unusedVariables false
set_option linter.unusedSimpArgs false
set_option maxRecDepth 10000

def NoneR (v : Value) (a : Asrt) : Prop := ∀ h, TrV Tryz.prog 32 [v] h [a] (.bool true) [a]
def lgZ : List Value := [.pointer none, .int .i64 0, .int .u64 0, .int .u64 0, .int .u32 0, .bool false, .slice none 0 0, .slice none 0 0, .int .u64 0]
theorem noneNil (a : Asrt) : NoneR (.pointer none) a := fun h => by
  refine K.enter Tryz.func32 rfl (Nat.le_of_ble_eq_true rfl) (fun F => ?_)
  simp only [List.cons_append, List.nil_append]
  (repeat' (first | refine X.rq ?_ | (refine X.rc ?_ ?_ <;> intro hc <;> first | (exfalso; omega) | skip)))
  refine K.done (by first | exact Or.inl rfl | exact Or.inr rfl) rfl (by first | exact K.Base.le.refl _ | assumption) (H' := [_]) rfl ⟨rfl, rfl, rfl⟩
theorem noneNew (p : Nat) : NoneR (pv p) (blk p 34 lgZ) := fun h => by
  refine K.enter Tryz.func32 rfl (Nat.le_of_ble_eq_true rfl) (fun F => ?_)
  unfold lgZ
  simp only [List.cons_append, List.nil_append]
  (repeat' (first | refine X.rq ?_ | (refine X.rc ?_ ?_ <;> intro hc <;> first | (exfalso; omega) | skip)))
  refine K.done (by first | exact Or.inl rfl | exact Or.inr rfl) rfl (by first | exact K.Base.le.refl _ | assumption) (H' := [_]) rfl ⟨rfl, rfl, rfl⟩
theorem ZBase (h : Base) (v : Value) (a : Asrt) (hn : NoneR v a) : TrV Tryz.prog 12 [v] h [a] (.int .u64 0) [a] := by
  refine K.enter Tryz.func12 rfl (Nat.le_of_ble_eq_true rfl) (fun F => ?_)
  simp only [List.cons_append, List.nil_append]
  (repeat' (first | refine X.rq ?_ | (refine X.rc ?_ ?_ <;> intro hc <;> first | (exfalso; omega) | skip)))
  refine K.l_callV (Fx.cal rfl) rfl (hn _) (K.pp [0] rfl) rfl rfl ?_
  simp only [List.cons_append, List.nil_append]
  (repeat' (first | refine X.rq ?_ | (refine X.rc ?_ ?_ <;> intro hc <;> first | (exfalso; omega) | skip)))
  refine K.done (by first | exact Or.inl rfl | exact Or.inr rfl) rfl (by first | exact K.Base.le.refl _ | assumption) (H' := [_]) rfl ⟨rfl, rfl, rfl⟩
theorem ZEnd (h : Base) (v : Value) (a : Asrt) (hn : NoneR v a) : TrV Tryz.prog 13 [v] h [a] (.int .u64 0) [a] := by
  refine K.enter Tryz.func13 rfl (Nat.le_of_ble_eq_true rfl) (fun F => ?_)
  simp only [List.cons_append, List.nil_append]
  (repeat' (first | refine X.rq ?_ | (refine X.rc ?_ ?_ <;> intro hc <;> first | (exfalso; omega) | skip)))
  refine K.l_callV (Fx.cal rfl) rfl (hn _) (K.pp [0] rfl) rfl rfl ?_
  simp only [List.cons_append, List.nil_append]
  (repeat' (first | refine X.rq ?_ | (refine X.rc ?_ ?_ <;> intro hc <;> first | (exfalso; omega) | skip)))
  refine K.done (by first | exact Or.inl rfl | exact Or.inr rfl) rfl (by first | exact K.Base.le.refl _ | assumption) (H' := [_]) rfl ⟨rfl, rfl, rfl⟩
theorem ZDurable (h : Base) (v : Value) (a : Asrt) (hn : NoneR v a) : TrV Tryz.prog 14 [v] h [a] (.int .u64 0) [a] := by
  refine K.enter Tryz.func14 rfl (Nat.le_of_ble_eq_true rfl) (fun F => ?_)
  simp only [List.cons_append, List.nil_append]
  (repeat' (first | refine X.rq ?_ | (refine X.rc ?_ ?_ <;> intro hc <;> first | (exfalso; omega) | skip)))
  refine K.l_callV (Fx.cal rfl) rfl (hn _) (K.pp [0] rfl) rfl rfl ?_
  simp only [List.cons_append, List.nil_append]
  (repeat' (first | refine X.rq ?_ | (refine X.rc ?_ ?_ <;> intro hc <;> first | (exfalso; omega) | skip)))
  refine K.done (by first | exact Or.inl rfl | exact Or.inr rfl) rfl (by first | exact K.Base.le.refl _ | assumption) (H' := [_]) rfl ⟨rfl, rfl, rfl⟩
theorem ZCheck (h : Base) (v : Value) (a : Asrt) (hn : NoneR v a) : TrV Tryz.prog 15 [v] h [a] (.int .u64 0) [a] := by
  refine K.enter Tryz.func15 rfl (Nat.le_of_ble_eq_true rfl) (fun F => ?_)
  simp only [List.cons_append, List.nil_append]
  (repeat' (first | refine X.rq ?_ | (refine X.rc ?_ ?_ <;> intro hc <;> first | (exfalso; omega) | skip)))
  refine K.l_callV (Fx.cal rfl) rfl (hn _) (K.pp [0] rfl) rfl rfl ?_
  simp only [List.cons_append, List.nil_append]
  (repeat' (first | refine X.rq ?_ | (refine X.rc ?_ ?_ <;> intro hc <;> first | (exfalso; omega) | skip)))
  refine K.done (by first | exact Or.inl rfl | exact Or.inr rfl) rfl (by first | exact K.Base.le.refl _ | assumption) (H' := [_]) rfl ⟨rfl, rfl, rfl⟩
theorem ZKept (h : Base) (v : Value) (a : Asrt) (hn : NoneR v a) : TrV Tryz.prog 16 [v] h [a] (.int .u32 0) [a] := by
  refine K.enter Tryz.func16 rfl (Nat.le_of_ble_eq_true rfl) (fun F => ?_)
  simp only [List.cons_append, List.nil_append]
  (repeat' (first | refine X.rq ?_ | (refine X.rc ?_ ?_ <;> intro hc <;> first | (exfalso; omega) | skip)))
  refine K.l_callV (Fx.cal rfl) rfl (hn _) (K.pp [0] rfl) rfl rfl ?_
  simp only [List.cons_append, List.nil_append]
  (repeat' (first | refine X.rq ?_ | (refine X.rc ?_ ?_ <;> intro hc <;> first | (exfalso; omega) | skip)))
  refine K.done (by first | exact Or.inl rfl | exact Or.inr rfl) rfl (by first | exact K.Base.le.refl _ | assumption) (H' := [_]) rfl ⟨rfl, rfl, rfl⟩
theorem ZRoom (h : Base) (v : Value) (a : Asrt) (hn : NoneR v a) : TrV Tryz.prog 17 [v] h [a] (.int .i64 0) [a] := by
  refine K.enter Tryz.func17 rfl (Nat.le_of_ble_eq_true rfl) (fun F => ?_)
  simp only [List.cons_append, List.nil_append]
  (repeat' (first | refine X.rq ?_ | (refine X.rc ?_ ?_ <;> intro hc <;> first | (exfalso; omega) | skip)))
  refine K.l_callV (Fx.cal rfl) rfl (hn _) (K.pp [0] rfl) rfl rfl ?_
  simp only [List.cons_append, List.nil_append]
  (repeat' (first | refine X.rq ?_ | (refine X.rc ?_ ?_ <;> intro hc <;> first | (exfalso; omega) | skip)))
  refine K.done (by first | exact Or.inl rfl | exact Or.inr rfl) rfl (by first | exact K.Base.le.refl _ | assumption) (H' := [_]) rfl ⟨rfl, rfl, rfl⟩
theorem ZSectors (h : Base) (v : Value) (a : Asrt) (hn : NoneR v a) : TrV Tryz.prog 18 [v] h [a] (.int .i64 0) [a] := by
  refine K.enter Tryz.func18 rfl (Nat.le_of_ble_eq_true rfl) (fun F => ?_)
  simp only [List.cons_append, List.nil_append]
  (repeat' (first | refine X.rq ?_ | (refine X.rc ?_ ?_ <;> intro hc <;> first | (exfalso; omega) | skip)))
  refine K.l_callV (Fx.cal rfl) rfl (hn _) (K.pp [0] rfl) rfl rfl ?_
  simp only [List.cons_append, List.nil_append]
  (repeat' (first | refine X.rq ?_ | (refine X.rc ?_ ?_ <;> intro hc <;> first | (exfalso; omega) | skip)))
  refine K.done (by first | exact Or.inl rfl | exact Or.inr rfl) rfl (by first | exact K.Base.le.refl _ | assumption) (H' := [_]) rfl ⟨rfl, rfl, rfl⟩
theorem ZFlush (h : Base) (v : Value) (a : Asrt) (hn : NoneR v a) : TrV Tryz.prog 9 [v] h [a] (.int .i64 1) [a] := by
  refine K.enter Tryz.func9 rfl (Nat.le_of_ble_eq_true rfl) (fun F => ?_)
  simp only [List.cons_append, List.nil_append]
  (repeat' (first | refine X.rq ?_ | (refine X.rc ?_ ?_ <;> intro hc <;> first | (exfalso; omega) | skip)))
  refine K.l_callV (Fx.cal rfl) rfl (hn _) (K.pp [0] rfl) rfl rfl ?_
  simp only [List.cons_append, List.nil_append]
  (repeat' (first | refine X.rq ?_ | (refine X.rc ?_ ?_ <;> intro hc <;> first | (exfalso; omega) | skip)))
  refine K.done (by first | exact Or.inl rfl | exact Or.inr rfl) rfl (by first | exact K.Base.le.refl _ | assumption) (H' := [_]) rfl ⟨rfl, rfl, rfl⟩
theorem ZMark (h : Base) (v : Value) (a : Asrt) (x : Int) (hn : NoneR v a) : TrV Tryz.prog 10 [v, .int .u64 x] h [a] (.int .i64 1) [a] := by
  refine K.enter Tryz.func10 rfl (Nat.le_of_ble_eq_true rfl) (fun F => ?_)
  simp only [List.cons_append, List.nil_append]
  (repeat' (first | refine X.rq ?_ | (refine X.rc ?_ ?_ <;> intro hc <;> first | (exfalso; omega) | skip)))
  refine K.l_callV (Fx.cal rfl) rfl (hn _) (K.pp [0] rfl) rfl rfl ?_
  simp only [List.cons_append, List.nil_append]
  (repeat' (first | refine X.rq ?_ | (refine X.rc ?_ ?_ <;> intro hc <;> first | (exfalso; omega) | skip)))
  refine K.done (by first | exact Or.inl rfl | exact Or.inr rfl) rfl (by first | exact K.Base.le.refl _ | assumption) (H' := [_]) rfl ⟨rfl, rfl, rfl⟩
theorem ZReset (h : Base) (v : Value) (a : Asrt) (x : Int) (hn : NoneR v a) : TrV Tryz.prog 11 [v, .int .u32 x] h [a] (.int .i64 1) [a] := by
  refine K.enter Tryz.func11 rfl (Nat.le_of_ble_eq_true rfl) (fun F => ?_)
  simp only [List.cons_append, List.nil_append]
  (repeat' (first | refine X.rq ?_ | (refine X.rc ?_ ?_ <;> intro hc <;> first | (exfalso; omega) | skip)))
  refine K.l_callV (Fx.cal rfl) rfl (hn _) (K.pp [0] rfl) rfl rfl ?_
  simp only [List.cons_append, List.nil_append]
  (repeat' (first | refine X.rq ?_ | (refine X.rc ?_ ?_ <;> intro hc <;> first | (exfalso; omega) | skip)))
  refine K.done (by first | exact Or.inl rfl | exact Or.inr rfl) rfl (by first | exact K.Base.le.refl _ | assumption) (H' := [_]) rfl ⟨rfl, rfl, rfl⟩
theorem ZAppend (h : Base) (v : Value) (a : Asrt) (cs : List Value) (r : Recd) (hx : RecC h cs r) (hn : NoneR v a) : TrV Tryz.prog 8 [v, .agg cs.toArray] h [a] (.tuple #[.int .u64 0, .int .i64 1]) [a] := by
  obtain ⟨hw, ad, ai, al, ay, cd, ci, cl, cy, rfl, _⟩ := hx.cells
  refine K.enter Tryz.func8 rfl (Nat.le_of_ble_eq_true rfl) (fun F => ?_)
  simp only [List.cons_append, List.nil_append]
  (repeat' (first | refine X.rq ?_ | (refine X.rc ?_ ?_ <;> intro hc <;> first | (exfalso; omega) | skip)))
  refine K.l_box rfl rfl rfl (fun B3 => ?_)
  (repeat' (first | refine X.rq ?_ | (refine X.rc ?_ ?_ <;> intro hc <;> first | (exfalso; omega) | skip)))
  refine K.l_callV (Fx.cal rfl) rfl (hn _) (K.pp [1] rfl) rfl rfl ?_
  simp only [List.cons_append, List.nil_append]
  (repeat' (first | refine X.rq ?_ | (refine X.rc ?_ ?_ <;> intro hc <;> first | (exfalso; omega) | skip)))
  refine K.AT.perm (K.pp [1, 0] rfl) ?_
  exact K.doneC (vs := [.int .u64 0, .int .i64 1]) (by first | exact Or.inl rfl | exact Or.inr rfl) (.tmp rfl (.tmp rfl .nil)) (K.Base.le.refl _) (D := [_]) (H' := [_]) rfl ⟨rfl, rfl, rfl⟩
end Go.Proofs.YtmcdaegaopfihaaGreat.Wl
end

section
namespace Go.Proofs.YtmcdaegaopfihaaGreat.Wl
open Go Go.K Go.Proofs Go.Proofs.YtmcdaegaopfihaaGreat Go.Proofs.YtmcdaegaopfihaaGreat.Pg Go.Proofs.YtmcdaegaopfihaaGreat.Rc
set_option linter.unusedVariables false
set_option linter.unusedSimpArgs false
set_option maxRecDepth 10000

def LongP (h : Base) (G : Prop) (u : Value) (h' : Base) (H' : List Asrt) : Prop := h' = h ∧ H' = [] ∧ ∃ b, u = .bool b ∧ (b = false → G)
structure FewR (r : Recd) : Prop where
  img : r.images.length ≤ 66000
  liv : r.lives.length ≤ 66000
  dir : r.dirty.length ≤ 66000
  dat : r.op.data.length ≤ 66000
theorem FewR.small {r : Recd} (h : FewR r) : smallR r := ⟨h.img, h.liv, by have := h.dir; omega, h.dat⟩
structure LoS where
  k : Nat
  n : Nat
set_option maxHeartbeats 8000000 in
theorem LLong (h : Base) (v : Value) (l : List PAct) (hv : ActsV h v l) (hl : l.length ≤ 9223372036854775807) :
    Tr Tryz.prog 6 [v] h [] (LongP h (l.length ≤ 200 ∧ ∀ x ∈ l, FewR x.r)) := by
  obtain ⟨es, hv, hel, hr⟩ := hv
  obtain ⟨ao, ca, rfl⟩ := hv.len
  rw [hel] at hv ⊢
  refine K.enter Tryz.func6 rfl (Nat.le_of_ble_eq_true rfl) (fun F => ?_)
  simp only [List.nil_append]
  (repeat' (first | refine X.rq ?_ | (refine X.rc ?_ ?_ <;> intro hc <;> first | (exfalso; omega) | skip)))
  refine K.c_loop (σ := Nat) (fun j => [(0, .slice ao l.length ca), (3, .int .i64 j)]) (fun _ => h) (fun _ => F)
    (fun j => j ≤ l.length ∧ j ≤ 201 ∧ ∀ _ : Unit, ∀ (i : Nat) x, i < j → l[i]? = some x → FewR x.r) (fun j => l.length - j) 0 ⟨Nat.zero_le _, Nat.zero_le _, fun _ i x hi => by omega⟩ (by repeat (first | exact K.Sub.nil _ | refine K.Sub.cons rfl ?_)) rfl rfl ?_
  rintro j ⟨hj, hj3, hyes⟩ KL hKL
  by_cases hjl : j < l.length ∧ j ≤ 200
  · obtain ⟨hjl, hj200⟩ := hjl
    have hc1 : es[j]? = some (es[j]'(by omega)) := List.getElem?_eq_getElem (by omega)
    have hc0 : es[((j : Nat) : Int).toNat]? = some (es[j]'(by omega)) := by rw [Int.toNat_natCast]; exact hc1
    have he1 : l[j]? = some (l[j]'(by omega)) := List.getElem?_eq_getElem hjl
    generalize es[j]'(by omega) = c at hc0 hc1
    generalize l[j]'(by omega) = x at he1
    obtain ⟨_, _, ⟨q1, q2, q3, q4, q5⟩, cs, rfl, hx⟩ := hr j c x hc1 he1
    obtain ⟨what, r, xn⟩ := x
    dsimp only at q1 q2 q3 q4 q5 hx
    obtain ⟨hw, ad, ai, al, ay, cd, ci, cl, cy, rfl, hb, ⟨es2, hi1, hi2, hi3⟩, hl4, hd2⟩ := hx.cells
    clear hx hb hl4 hd2 hw
    (repeat' (first | refine X.rq ?_ | (refine X.rc ?_ ?_ <;> intro hc <;> first | (exfalso; omega) | skip)))
    refine K.s_pureE (K.p_indexL hv (Fx.und rfl) (Fx.sz rfl) rfl rfl (by omega) hc0) rfl ?_
    rintro v2 ⟨b, o, rfl, hcel⟩
    have hcr : Cels h [] b (o + 1) (cR r (.slice ad r.op.data.length cd) (.slice ai r.images.length ci) (.slice al r.lives.length cl) (.slice ay r.dirty.length cy)) := Cels.take 15 (Cels.drop 1 (by simp [cR]) hcel)
    (repeat' (first | refine X.rq ?_ | (refine X.rc ?_ ?_ <;> intro hc <;> first | (exfalso; omega) | skip)))
    refine K.s_pure (K.p_loadM (vs := cR r (.slice ad r.op.data.length cd) (.slice ai r.images.length ci) (.slice al r.lives.length cl) (.slice ay r.dirty.length cy)) (Fx.agg rfl) rfl (Cels.up hcr) (Fx.sz rfl) rfl) rfl ?_
    clear hcr hcel
    (repeat' (first | refine X.rq ?_ | (refine X.rc ?_ ?_ <;> intro hc <;> first | (exfalso; omega) | skip)))
    refine K.l_alloc (Fx.zr rfl) rfl rfl (fun B4 => ?_)
    refine X.stw ?_
    simp only [List.set_cons_zero, List.set_cons_succ, List.eraseIdx_cons_zero, List.eraseIdx_cons_succ, List.cons_append, List.nil_append]
    (repeat' (first | refine X.rq ?_ | (refine X.rc ?_ ?_ <;> intro hc <;> first | (exfalso; omega) | skip)))
    obtain ⟨n0, hn0⟩ : ∃ n0, n0 = r.op.data.length + r.lives.length + r.dirty.length + r.images.length := ⟨_, rfl⟩
    rw [show (r.op.data.length : Int) + r.lives.length + r.dirty.length + r.images.length = (n0 : Int) by omega]
    refine K.c_loop (σ := LoS) (fun q => [(0, .slice ao l.length ca), (3, .int .i64 j), (4, .pointer (some ⟨B4, 0, none⟩)), (5, .int .i64 q.n), (6, .int .i64 q.k)]) (fun _ => h) (fun _ => blk B4 45 (cR r (.slice ad r.op.data.length cd) (.slice ai r.images.length ci) (.slice al r.lives.length cl) (.slice ay r.dirty.length cy)) :: F)
      (fun q => q.k ≤ r.images.length ∧ q.k ≤ 200 ∧ n0 ≤ q.n ∧ q.n ≤ n0 + q.k * 28428972647776256) (fun q => r.images.length - q.k) ⟨0, n0⟩ ⟨by dsimp only; omega, by dsimp only; omega, by dsimp only; omega, by dsimp only; omega⟩ (by repeat (first | exact K.Sub.nil _ | refine K.Sub.cons rfl ?_)) rfl rfl ?_
    rintro ⟨k, nn⟩ ⟨hk, hk2, hn1, hn2⟩ KM hKM
    dsimp only at hk hk2 hn1 hn2 ⊢
    by_cases hkl : k < r.images.length ∧ k < 200
    · obtain ⟨hkl, hk200⟩ := hkl
      have hd1 : es2[k]? = some (es2[k]'(by omega)) := List.getElem?_eq_getElem (by omega)
      have hd0 : es2[((k : Nat) : Int).toNat]? = some (es2[k]'(by omega)) := by rw [Int.toNat_natCast]; exact hd1
      have hz1 : r.images[k]? = some (r.images[k]'hkl) := List.getElem?_eq_getElem hkl
      have q5 := q5 (r.images[k]'hkl) (List.getElem_mem hkl)
      generalize es2[k]'(by omega) = d at hd0 hd1
      generalize r.images[k]'hkl = m at hz1 q5
      obtain ⟨hpg, cs5, rfl, hwp, cv, rfl, es5, hv5, hel5, hr5⟩ := hi3 k d m hd1 hz1
      obtain ⟨q6, q7⟩ := q5
      obtain ⟨ao5, ca5, rfl⟩ := hv5.len
      clear hwp
      rw [hel5] at hv5
      (repeat' (first | refine X.rq ?_ | (refine X.rc ?_ ?_ <;> intro hc <;> first | (exfalso; omega) | skip)))
      refine K.s_pureE (K.p_indexL hi1 (Fx.und rfl) (Fx.sz rfl) rfl rfl (by omega) hd0) rfl ?_
      rintro v3 ⟨b3, o3, rfl, hcel3⟩
      have hq3 := (Cels.up (K := blk B4 45 (cR r (.slice ad r.op.data.length cd) (.slice ai r.images.length ci) (.slice al r.lives.length cl) (.slice ay r.dirty.length cy)) :: F) hcel3).2.2.2.2.1
      rw [hel5] at hq3
      (repeat' (first | refine X.rq ?_ | (refine X.rc ?_ ?_ <;> intro hc <;> first | (exfalso; omega) | skip)))
      refine K.c_loop (σ := LoS) (fun q => [(0, .slice ao l.length ca), (3, .int .i64 j), (4, .pointer (some ⟨B4, 0, none⟩)), (5, .int .i64 q.n), (6, .int .i64 k), (7, .int .i64 q.k)]) (fun _ => h) (fun _ => blk B4 45 (cR r (.slice ad r.op.data.length cd) (.slice ai r.images.length ci) (.slice al r.lives.length cl) (.slice ay r.dirty.length cy)) :: F)
        (fun q => q.k ≤ m.to.cells.length ∧ q.k ≤ 200 ∧ n0 ≤ q.n ∧ q.n ≤ nn + 4398046511104 + q.k * 140737488351232) (fun q => m.to.cells.length - q.k) ⟨0, nn + m.to.cells.length⟩ ⟨Nat.zero_le _, Nat.zero_le _, by dsimp only; omega, by dsimp only; omega⟩ (by repeat (first | exact K.Sub.nil _ | refine K.Sub.cons rfl ?_)) rfl rfl ?_
      rintro ⟨u, mm⟩ ⟨hu, hu2, hm1, hm2⟩ KN hKN
      dsimp only at hu hu2 hm1 hm2 ⊢
      by_cases hul : u < m.to.cells.length ∧ u < 200
      · obtain ⟨hul, hu200⟩ := hul
        have hf1 : es5[u]? = some (es5[u]'(by omega)) := List.getElem?_eq_getElem (by omega)
        have hf0 : es5[((u : Nat) : Int).toNat]? = some (es5[u]'(by omega)) := by rw [Int.toNat_natCast]; exact hf1
        have hy1 : m.to.cells[u]? = some (m.to.cells[u]'hul) := List.getElem?_eq_getElem hul
        have q7 := q7 (m.to.cells[u]'hul) (List.getElem_mem hul)
        generalize es5[u]'(by omega) = f at hf0 hf1
        generalize m.to.cells[u]'hul = z at hy1 q7
        obtain ⟨_, hzl, ao6, ca6, rfl, _⟩ := hr5 u f z hf1 hy1
        (repeat' (first | refine X.rq ?_ | (refine X.rc ?_ ?_ <;> intro hc <;> first | (exfalso; omega) | skip)))
        refine K.s_pureE (K.p_indexL hi1 (Fx.und rfl) (Fx.sz rfl) rfl rfl (by omega) hd0) rfl ?_
        rintro v4 ⟨b4, o4, rfl, hcel4⟩
        have hq4 := (Cels.up (K := blk B4 45 (cR r (.slice ad r.op.data.length cd) (.slice ai r.images.length ci) (.slice al r.lives.length cl) (.slice ay r.dirty.length cy)) :: F) hcel4).2.2.2.2.1
        rw [hel5] at hq4
        (repeat' (first | refine X.rq ?_ | (refine X.rc ?_ ?_ <;> intro hc <;> first | (exfalso; omega) | skip)))
        refine K.s_pureE (K.p_indexL hi1 (Fx.und rfl) (Fx.sz rfl) rfl rfl (by omega) hd0) rfl ?_
        rintro v5 ⟨b5, o5, rfl, hcel5⟩
        have hq5 := (Cels.up (K := blk B4 45 (cR r (.slice ad r.op.data.length cd) (.slice ai r.images.length ci) (.slice al r.lives.length cl) (.slice ay r.dirty.length cy)) :: F) hcel5).2.2.2.2.1
        rw [hel5] at hq5
        (repeat' (first | refine X.rq ?_ | (refine X.rc ?_ ?_ <;> intro hc <;> first | (exfalso; omega) | skip)))
        refine K.s_pureE (K.p_indexL hv5 (Fx.und rfl) (Fx.sz rfl) rfl rfl (by omega) hf0) rfl ?_
        rintro v6 ⟨b6, o6, rfl, hcel6⟩
        have hq6 := (Cels.up (K := blk B4 45 (cR r (.slice ad r.op.data.length cd) (.slice ai r.images.length ci) (.slice al r.lives.length cl) (.slice ay r.dirty.length cy)) :: F) hcel6).2.2.1
        (repeat' (first | refine X.rq ?_ | (refine X.rc ?_ ?_ <;> intro hc <;> first | (exfalso; omega) | skip)))
        refine K.a_round hKN ⟨u + 1, mm + z.data.length⟩ ⟨by dsimp only; omega, by dsimp only; omega, by dsimp only; omega, by dsimp only; omega⟩ (by repeat (first | exact K.Sub.nil _ | refine K.Sub.cons rfl ?_)) rfl rfl (by dsimp only; omega)
      · by_cases hul2 : u < m.to.cells.length
        all_goals
          (repeat' (first | refine X.rq ?_ | (refine X.rc ?_ ?_ <;> intro hc <;> first | (exfalso; omega) | skip)))
          all_goals try (exfalso; omega)
          all_goals try
            refine K.s_pureE (K.p_indexL hi1 (Fx.und rfl) (Fx.sz rfl) rfl rfl (by omega) hd0) rfl ?_
            rintro v4 ⟨b4, o4, rfl, hcel4⟩
            have hq4 := (Cels.up (K := blk B4 45 (cR r (.slice ad r.op.data.length cd) (.slice ai r.images.length ci) (.slice al r.lives.length cl) (.slice ay r.dirty.length cy)) :: F) hcel4).2.2.2.2.1
            rw [hel5] at hq4
          (repeat' (first | refine X.rq ?_ | (refine X.rc ?_ ?_ <;> intro hc <;> first | (exfalso; omega) | skip)))
          all_goals try (exfalso; omega)
          refine K.a_round hKM ⟨k + 1, mm⟩ ⟨by dsimp only; omega, by dsimp only; omega, by dsimp only; omega, by dsimp only; omega⟩ (by repeat (first | exact K.Sub.nil _ | refine K.Sub.cons rfl ?_)) rfl rfl (by dsimp only; omega)
    · (repeat' (first | refine X.rq ?_ | (refine X.rc ?_ ?_ <;> intro hc <;> first | (exfalso; omega) | skip)))
      all_goals try (exfalso; omega)
      all_goals refine K.AT.drop ?_
      all_goals first
        | refine K.done (by first | exact Or.inl rfl | exact Or.inr rfl) rfl (by first | exact K.Base.le.refl _ | assumption) (H' := []) rfl ⟨rfl, rfl, true, rfl, fun e => by cases e⟩
        | skip
      all_goals
        refine K.a_round hKL (j + 1) ⟨by omega, by omega, fun _ i y hi h2 => ?_⟩ (by repeat (first | exact K.Sub.nil _ | refine K.Sub.cons rfl ?_)) rfl rfl (by omega)
        by_cases hij : i < j
        · exact hyes () i y hij h2
        · obtain rfl : i = j := by omega
          rw [he1] at h2; cases h2
          exact ⟨by dsimp only; omega, by dsimp only; omega, by dsimp only; omega, by dsimp only; omega⟩
  · have hfin : ∀ _ : Unit, l.length ≤ 200 → l.length ≤ 200 ∧ ∀ x ∈ l, FewR x.r := fun _ hl => ⟨hl, fun x hx => by
      obtain ⟨m, hm, rfl⟩ := List.mem_iff_getElem.1 hx
      exact hyes () m _ (by omega) (List.getElem?_eq_getElem hm)⟩
    clear hyes
    (repeat' (first | refine X.rq ?_ | (refine X.rc ?_ ?_ <;> intro hc <;> first | (exfalso; omega) | skip)))
    all_goals
      refine K.done (by first | exact Or.inl rfl | exact Or.inr rfl) rfl (by first | exact K.Base.le.refl _ | assumption) (H' := []) rfl ⟨rfl, rfl, _, rfl, fun e => ?_⟩
      refine hfin () ?_
      simp only [decide_eq_false_iff_not, decide_eq_true_eq, reduceCtorEq] at e <;> omega
end Go.Proofs.YtmcdaegaopfihaaGreat.Wl
end
