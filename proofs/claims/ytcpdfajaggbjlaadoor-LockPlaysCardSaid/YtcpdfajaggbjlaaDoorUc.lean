/-
  Whatever is asked for and given back: no two hold what conflicts; what is held is told; who waits waits for somebody. Conditions: each theorem's own.
-/
import Derived.Test.YtcpdfajaggbjlaaDoorUb

namespace Go.Proofs.YtcpdfajaggbjlaaDoor.Lk
open Go Go.K Go.Proofs Go.Proofs.YtcpdfajaggbjlaaDoor
set_option linter.unusedVariables false
set_option linter.unusedSimpArgs false
set_option maxRecDepth 10000

theorem ask_len (l : List PLock) (txn : Nat) (th : PThing) (mode : Int) : (askQ l txn th mode).1.length ≤ l.length + 1 := by
  unfold askQ
  repeat' split
  all_goals dsimp only
  all_goals first | (rw [List.length_append]; exact Nat.le_refl _) | omega
theorem rel_len (l : List PLock) (txn : Nat) : (releaseQ l txn).1.length ≤ l.length ∧ (releaseQ l txn).2.length ≤ l.length := by
  have h1 := raiseQ_len (l.filter (keepP txn)) (l.filter (keepP txn)).length
  have h2 : (l.filter (keepP txn)).length ≤ l.length := List.length_filter_le ..
  unfold releaseQ
  omega
/-- A pair by which somebody waits for somebody else. -/
def forP (txn : Nat) (p : PW) : Bool := decide (p.1 = txn) && decide (p.2 ≠ txn)
structure AwS where
  j : Nat
  b : Bool
structure AjS where
  a : Option Nat
  k : Nat
  l : List PLock
structure ApS where
  hb : Base
  i : Nat
  a : Option Nat
  k : Nat
  l : List PLock
set_option maxHeartbeats 8000000 in
theorem LockApartW (h : Base) (v : Value) (l0 : List PAct) (hv : SL h 7 v (l0.map cA)) (hw : ∀ x ∈ l0, wfA x) (hl : l0.length ≤ 9223372036854775807) (hG : Glob h) :
    Tr Tryd.prog 4 [v] h [] (fun u h' H' => u = .bool true ∧ H' = []) := by
  have hlen : (l0.map cA).length = l0.length := List.length_map ..
  have hlo := Long h v l0 hv hw hl
  obtain ⟨ao, ca, rfl⟩ := hv.len
  rw [hlen] at hv hlo ⊢
  refine K.enter Tryd.func4 rfl (Nat.le_of_ble_eq_true rfl) (fun F => ?_)
  simp only [List.nil_append, List.cons_append]
  (repeat' (first | refine X.rq ?_ | (refine X.rc ?_ ?_ <;> intro hc <;> first | (exfalso; omega) | skip)))
  refine K.l_call (Fx.cal rfl) rfl hlo (K.pp [] rfl) rfl ?_
  rintro u h' H' - ⟨e, b, rfl, hb, rfl⟩
  obtain rfl := e.symm
  simp only [List.nil_append, List.cons_append]
  cases b with
  | true =>
    (repeat' (first | refine X.rq ?_ | (refine X.rc ?_ ?_ <;> intro hc <;> first | (exfalso; omega) | skip)))
    refine K.l_call (Fx.cal rfl) rfl (Alive h hG) (K.pp [] rfl) rfl ?_
    rintro u h' H' hle ⟨rfl, rfl⟩
    simp only [List.nil_append, List.cons_append]
    (repeat' (first | refine X.rq ?_ | (refine X.rc ?_ ?_ <;> intro hc <;> first | (exfalso; omega) | skip)))
    refine K.done (by first | exact Or.inl rfl | exact Or.inr rfl) rfl (by first | exact K.Base.le.refl _ | assumption) (H' := []) rfl ⟨rfl, rfl⟩
  | false =>
    have hb := hb rfl
    (repeat' (first | refine X.rq ?_ | (refine X.rc ?_ ?_ <;> intro hc <;> first | (exfalso; omega) | skip)))
    refine K.l_call (Fx.cal rfl) rfl (New h) (K.pp [] rfl) rfl ?_
    rintro u h' H' - ⟨e, BT, rfl, rfl⟩
    obtain rfl := e.symm
    simp only [List.nil_append, List.cons_append]
    (repeat' (first | refine X.rq ?_ | (refine X.rc ?_ ?_ <;> intro hc <;> first | (exfalso; omega) | skip)))
    refine K.c_loop (σ := ApS) (fun s => [(0, .slice ao l0.length ca), (3, .pointer (some ⟨BT, 0, none⟩)), (4, .int .i64 s.i)]) (fun s => s.hb) (fun s => rowsA s.a s.k s.l :: tabB BT s.a s.k s.l :: F)
      (fun s => h.le s.hb ∧ s.i ≤ l0.length ∧ Inv s.l ∧ s.l.length ≤ s.i) (fun s => l0.length - s.i) ⟨h, 0, none, 0, []⟩ ⟨K.Base.le.refl h, Nat.zero_le _, Inv.nil, Nat.le_refl _⟩ (by repeat (first | exact K.Sub.nil _ | refine K.Sub.cons rfl ?_)) rfl rfl ?_
    rintro ⟨hb1, i, a, k, l⟩ ⟨hle, hi, hinv, hll⟩ KL hKL
    dsimp only at hle hi hinv hll ⊢
    have hG1 := hG.le hle
    by_cases hil : i < l0.length
    · have hx1 : l0[i]? = some l0[i] := List.getElem?_eq_getElem hil
      have hwx := hw _ (List.getElem_mem hil)
      generalize l0[i] = x at hx1 hwx
      have hc0 : (l0.map cA)[i]? = some (cA x) := by rw [List.getElem?_map, hx1]; rfl
      obtain ⟨bb, oo, rfl, hcx⟩ := hv.at hc0
      have hcx := Cels.le hle hcx
      (repeat' (first | refine X.rq ?_ | (refine X.rc ?_ ?_ <;> intro hc <;> first | (exfalso; omega) | skip)))
      refine K.s_pure (K.p_loadM (Fx.agg rfl) rfl (Cels.up hcx) (Fx.sz rfl) rfl) rfl ?_
      refine K.l_alloc (Fx.zr rfl) rfl rfl (fun B5 => ?_)
      (repeat' (first | refine X.rq ?_ | (refine X.rc ?_ ?_ <;> intro hc <;> first | (exfalso; omega) | skip)))
      refine X.stw ?_
      simp only [List.set_cons_zero, List.set_cons_succ, List.eraseIdx_cons_zero, List.eraseIdx_cons_succ, List.cons_append, List.nil_append]
      (repeat' (first | refine X.rs ?_ | (refine X.rd ?_ ?_ <;> intro hc <;> first | (exfalso; omega) | skip)))
      apply K.c_seq
      refine K.c_join (β := AjS) (fun q => [(0, .slice (some ⟨bb, oo, none⟩) l0.length ca), (3, .pointer (some ⟨BT, 0, none⟩)), (4, .int .i64 i)]) (fun _ => hb1) (fun q => rowsA q.a q.k q.l :: tabB BT q.a q.k q.l :: F)
        (fun q => Inv q.l ∧ q.l.length ≤ i + 1) (fun KJ hJ => ?_) ?_
      · by_cases hop : x.op = 1
        · have hrel := Release hb1 BT a k l x.txn hinv.wf hG1 (by omega)
          have hrl := rel_len l x.txn
          have hri := release_inv hinv x.txn
          (repeat' (first | refine X.rq ?_ | (refine X.rc ?_ ?_ <;> intro hc <;> first | (exfalso; omega) | skip)))
          all_goals first | (exfalso; simp_all; done) | skip
          refine K.l_call (Fx.cal rfl) rfl hrel (K.pp [1, 1] rfl) rfl ?_
          rintro u h' H' - ⟨e, a2, k2, rfl, rfl⟩
          obtain rfl := e.symm
          simp only [List.nil_append, List.cons_append]
          simp only [List.set_cons_zero, List.set_cons_succ, List.eraseIdx_cons_zero, List.eraseIdx_cons_succ, List.cons_append, List.nil_append]
          (repeat' (first | refine X.rq ?_ | (refine X.rc ?_ ?_ <;> intro hc <;> first | (exfalso; omega) | skip)))
          refine K.AT.sel [2, 2] rfl ?_
          refine K.a_join hJ ⟨a, k, (releaseQ l x.txn).1⟩ ⟨hri, by dsimp only; omega⟩ (by repeat (first | exact K.Sub.nil _ | refine K.Sub.cons rfl ?_)) rfl rfl
        · have hask := Ask hb1 BT a k l x.txn x.thing x.mode hinv.wf hG1 hwx.thing hwx.txn (by omega)
          have hal := ask_len l x.txn x.thing x.mode
          have hai := ask_inv hinv (mode := x.mode) hwx.thing hwx.txn
          have hah := @ask_has l x.txn x.thing x.mode
          have hhs := fun a2 k2 => HasA hb1 BT a2 k2 (askQ l x.txn x.thing x.mode).1 x.txn x.thing x.mode hai.wf hG1 hwx.thing (by omega)
          generalize askQ l x.txn x.thing x.mode = r at hask hal hai hah hhs
          (repeat' (first | refine X.rq ?_ | (refine X.rc ?_ ?_ <;> intro hc <;> first | (exfalso; omega) | skip)))
          all_goals first | (exfalso; simp_all; done) | skip
          refine K.s_pure (K.p_loadN (vs := cT x.thing) (Fx.agg rfl) (Fx.sz rfl) rfl (K.cels_own (pre := [.int .i64 x.op, .int .u32 x.txn]) (post := [.int .i64 x.mode]) 0 rfl rfl)) rfl ?_
          (repeat' (first | refine X.rq ?_ | (refine X.rc ?_ ?_ <;> intro hc <;> first | (exfalso; omega) | skip)))
          refine K.l_call (Fx.cal rfl) rfl hask (K.pp [1, 1] rfl) rfl ?_
          rintro u h' H' - ⟨e, a2, k2, rfl, rfl⟩
          obtain rfl := e.symm
          simp only [List.nil_append, List.cons_append]
          simp only [List.set_cons_zero, List.set_cons_succ, List.eraseIdx_cons_zero, List.eraseIdx_cons_succ, List.cons_append, List.nil_append]
          by_cases h0 : r.2.2 = 0
          · have hhs := hhs a2 k2
            rw [hah h0] at hhs
            generalize r.2.1 = rb at hhs
            cases rb with
            | true =>
              (repeat' (first | refine X.rq ?_ | (refine X.rc ?_ ?_ <;> intro hc <;> first | (exfalso; omega) | skip)))
              all_goals first | (exfalso; simp_all; done) | skip
              refine K.s_pure (K.p_loadN (vs := cT x.thing) (Fx.agg rfl) (Fx.sz rfl) rfl (K.cels_own (pre := [.int .i64 x.op, .int .u32 x.txn]) (post := [.int .i64 x.mode]) 2 rfl rfl)) rfl ?_
              (repeat' (first | refine X.rq ?_ | (refine X.rc ?_ ?_ <;> intro hc <;> first | (exfalso; omega) | skip)))
              refine K.l_callV (Fx.cal rfl) rfl hhs (K.pp [0, 0] rfl) rfl rfl ?_
              simp only [List.nil_append, List.cons_append]
              (repeat' (first | refine X.rq ?_ | (refine X.rc ?_ ?_ <;> intro hc <;> first | (exfalso; omega) | skip)))
              refine K.AT.sel [2] rfl ?_
              refine K.a_join hJ ⟨a2, k2, r.1⟩ ⟨hai, by dsimp only; omega⟩ (by repeat (first | exact K.Sub.nil _ | refine K.Sub.cons rfl ?_)) rfl rfl
            | false =>
              (repeat' (first | refine X.rq ?_ | (refine X.rc ?_ ?_ <;> intro hc <;> first | (exfalso; omega) | skip)))
              all_goals first | (exfalso; simp_all; done) | skip
              refine K.s_pure (K.p_loadN (vs := cT x.thing) (Fx.agg rfl) (Fx.sz rfl) rfl (K.cels_own (pre := [.int .i64 x.op, .int .u32 x.txn]) (post := [.int .i64 x.mode]) 2 rfl rfl)) rfl ?_
              (repeat' (first | refine X.rq ?_ | (refine X.rc ?_ ?_ <;> intro hc <;> first | (exfalso; omega) | skip)))
              refine K.l_callV (Fx.cal rfl) rfl hhs (K.pp [0, 0] rfl) rfl rfl ?_
              simp only [List.nil_append, List.cons_append]
              (repeat' (first | refine X.rq ?_ | (refine X.rc ?_ ?_ <;> intro hc <;> first | (exfalso; omega) | skip)))
              refine K.AT.sel [2] rfl ?_
              refine K.a_join hJ ⟨a2, k2, r.1⟩ ⟨hai, by dsimp only; omega⟩ (by repeat (first | exact K.Sub.nil _ | refine K.Sub.cons rfl ?_)) rfl rfl
          · (repeat' (first | refine X.rq ?_ | (refine X.rc ?_ ?_ <;> intro hc <;> first | (exfalso; omega) | skip)))
            all_goals first | (exfalso; simp_all; done) | skip
            refine K.AT.sel [2] rfl ?_
            refine K.a_join hJ ⟨a2, k2, r.1⟩ ⟨hai, by dsimp only; omega⟩ (by repeat (first | exact K.Sub.nil _ | refine K.Sub.cons rfl ?_)) rfl rfl
      · rintro ⟨a2, k2, l2⟩ ⟨hinv2, hll2⟩
        dsimp only at hinv2 hll2 ⊢
        clear hinv hll hcx hc0 hx1
        have hall := AllA hb1 BT a2 k2 l2 (by omega)
        have hwai := Waits hb1 BT a2 k2 l2 hinv2.wf hG1 (by omega)
        (repeat' (first | refine X.rq ?_ | (refine X.rc ?_ ?_ <;> intro hc <;> first | (exfalso; omega) | skip)))
        refine K.l_call (Fx.cal rfl) rfl hall (K.pp [0, 0] rfl) rfl ?_
        rintro u h' H' - ⟨e, a3, k3, rfl, rfl⟩
        obtain rfl := e.symm
        simp only [List.nil_append, List.cons_append]
        simp only [List.set_cons_zero, List.set_cons_succ, List.eraseIdx_cons_zero, List.eraseIdx_cons_succ, List.cons_append, List.nil_append]
        (repeat' (first | refine X.rq ?_ | (refine X.rc ?_ ?_ <;> intro hc <;> first | (exfalso; omega) | skip)))
        refine K.l_call (Fx.cal rfl) rfl hwai (K.pp [0, 0] rfl) rfl ?_
        rintro u h' H' - ⟨e, a4, k4, rfl, rfl⟩
        obtain rfl := e.symm
        simp only [List.nil_append, List.cons_append]
        simp only [List.set_cons_zero, List.set_cons_succ, List.eraseIdx_cons_zero, List.eraseIdx_cons_succ, List.cons_append, List.nil_append]
        refine K.WL.perm (K.pp [2, 2] rfl) ?_
        simp only [List.set_cons_zero, List.set_cons_succ, List.eraseIdx_cons_zero, List.eraseIdx_cons_succ, List.cons_append, List.nil_append]
        have hwl : ((waitsQ l2).map cW).length = (waitsQ l2).length := List.length_map ..
        have hll3 : (l2.map cK).length = l2.length := List.length_map ..
        rw [bufW, ← hwl]
        refine K.WL.freezeRow (two _) (fun h2 le2 hws _ => ?_)
        rw [rowsA, ← hll3]
        refine K.WL.freezeRow (seven _) (fun h3 le3 hls _ => ?_)
        rw [hwl] at hws ⊢
        rw [hll3] at hls ⊢
        have hws := hws.le le3
        have hle3 := (hle.trans le2).trans le3
        have hG3 := hG.le hle3
        have hwm : ∀ x ∈ l2, x.held = false → ∃ p ∈ waitsQ l2, p.1 = x.txn ∧ p.2 ≠ x.txn := fun x hx hh => by
          obtain ⟨i, hi⟩ := List.mem_iff_getElem?.1 hx
          exact wait_waits hinv2 hi hh
        have hwlen := waits_len (l := l2) (by omega)
        generalize waitsQ l2 = w at hws hwm hwlen ⊢
        have hap := Apart h3 _ l2 hls (by omega) hinv2.apart
        (repeat' (first | refine X.rq ?_ | (refine X.rc ?_ ?_ <;> intro hc <;> first | (exfalso; omega) | skip)))
        refine K.l_callV (Fx.cal rfl) rfl hap (K.pp [] rfl) rfl rfl ?_
        simp only [List.nil_append, List.cons_append]
        (repeat' (first | refine X.rq ?_ | (refine X.rc ?_ ?_ <;> intro hc <;> first | (exfalso; omega) | skip)))
        obtain ⟨al, cl, el⟩ : ∃ ao ca, bufV a3 l2.length k3 = .slice ao l2.length ca := ⟨_, _, rfl⟩
        obtain ⟨aw, cw, ew⟩ : ∃ ao ca, bufV a4 w.length k4 = .slice ao w.length ca := ⟨_, _, rfl⟩
        rw [el] at hls ⊢
        rw [ew] at hws ⊢
        refine K.c_loop (σ := Nat) (fun k => [(0, .slice (some ⟨bb, oo, none⟩) l0.length ca), (3, .pointer (some ⟨BT, 0, none⟩)), (4, .int .i64 i), (8, .slice al l2.length cl), (9, .slice aw w.length cw), (10, .int .i64 k)]) (fun _ => h3) (fun _ => rowsA a2 k2 l2 :: tabB BT a2 k2 l2 :: F)
          (fun k => k ≤ l2.length) (fun k => l2.length - k) 0 (Nat.zero_le _) (by repeat (first | exact K.Sub.nil _ | refine K.Sub.cons rfl ?_)) rfl rfl ?_
        intro k hk KM hKM
        by_cases hkl : k < l2.length
        · have hx2 : l2[k]? = some l2[k] := List.getElem?_eq_getElem hkl
          have hm2 : l2[k] ∈ l2 := List.getElem_mem hkl
          generalize l2[k] = x2 at hx2 hm2
          have hc2 : (l2.map cK)[k]? = some (cK x2) := by rw [List.getElem?_map, hx2]; rfl
          obtain ⟨bl, ol, rfl, hcl⟩ := hls.at hc2
          have hwx2 := hwm x2 hm2
          (repeat' (first | refine X.rq ?_ | (refine X.rc ?_ ?_ <;> intro hc <;> first | (exfalso; omega) | skip)))
          refine K.c_loop (σ := AwS) (fun s => [(0, .slice (some ⟨bb, oo, none⟩) l0.length ca), (3, .pointer (some ⟨BT, 0, none⟩)), (4, .int .i64 i), (8, .slice (some ⟨bl, ol, none⟩) l2.length cl), (9, .slice aw w.length cw), (10, .int .i64 k), (11, .bool s.b), (12, .int .i64 s.j)]) (fun _ => h3) (fun _ => rowsA a2 k2 l2 :: tabB BT a2 k2 l2 :: F)
            (fun s => s.j ≤ w.length ∧ s.b = (w.take s.j).any (forP x2.txn)) (fun s => w.length - s.j) ⟨0, false⟩ ⟨Nat.zero_le _, rfl⟩ (by repeat (first | exact K.Sub.nil _ | refine K.Sub.cons rfl ?_)) rfl rfl ?_
          rintro ⟨j, b⟩ ⟨hj, hb2⟩ KN hKN
          dsimp only at hj hb2 ⊢
          by_cases hjl : j < w.length
          · have hp1 : w[j]? = some w[j] := List.getElem?_eq_getElem hjl
            generalize w[j] = p at hp1
            have hcw : (w.map cW)[j]? = some (cW p) := by rw [List.getElem?_map, hp1]; rfl
            obtain ⟨bw, ow, rfl, hcp⟩ := hws.at hcw
            have hat := any_take (p := forP x2.txn) hp1
            rw [← hb2] at hat
            have hfp : forP x2.txn p = (decide (p.1 = x2.txn) && decide (p.2 ≠ x2.txn)) := rfl
            rw [hfp] at hat
            clear hb2
            (repeat' (first | refine X.rq ?_ | (refine X.rc ?_ ?_ <;> intro hc <;> first | (exfalso; omega) | skip)))
            cases b with
            | true =>
              refine X.draw ([]) [] (.pu 0 (.pu 1 (.pu 2 (.pu 3 (.pu 4 (.pu 5 (.pu 7 (.pu 8 (.pu 9 (.pu 10 (.st 6 (.st 11 (.pu 12 (.pu 13 (.pu 14 (.pu 15 (.pu 16 (.pu 17 (.pu 19 (.pu 20 (.pu 21 (.pu 22 (.st 18 (.st 23 (.pu 24 (.pu 25 (.pu 26 (.pu 27 .nil)))))))))))))))))))))))))))) ?_ (hQ := by repeat (first | with_reducible refine K.NoPanic.then ?_ | with_reducible refine K.NoPanic.inBlock ?_ | with_reducible exact K.post_noPanic _ _ | exact K.post_noPanic _ _))
              refine K.d_pu rfl (fun _ _ => X.mv) rfl ?_
              refine K.d_pu rfl (fun _ _ => X.mv) rfl ?_
              first | refine K.d_skip rfl rfl rfl rfl ?_ | refine K.d_skipU rfl rfl rfl rfl rfl ?_ | refine K.d_puG rfl rfl rfl (fun _ _ => X.mv) rfl ?_
              first | refine K.d_skip rfl rfl rfl rfl ?_ | refine K.d_skipU rfl rfl rfl rfl rfl ?_ | refine K.d_puG rfl rfl rfl (fun _ _ => X.mv) rfl ?_
              first | refine K.d_skip rfl rfl rfl rfl ?_ | refine K.d_skipU rfl rfl rfl rfl rfl ?_ | refine K.d_puG rfl rfl rfl (fun _ _ => X.ia) rfl ?_
              first | refine K.d_skip rfl rfl rfl rfl ?_ | refine K.d_skipU rfl rfl rfl rfl rfl ?_ | refine K.d_puG rfl rfl rfl (fun _ _ => X.ia) rfl ?_
              first | refine K.d_skip rfl rfl rfl rfl ?_ | refine K.d_skipU rfl rfl rfl rfl rfl ?_ | refine K.d_puG rfl rfl rfl (fun _ _ => X.mv) rfl ?_
              first | refine K.d_skip rfl rfl rfl rfl ?_ | refine K.d_skipU rfl rfl rfl rfl rfl ?_ | refine K.d_puG rfl rfl rfl (fun _ _ => X.mv) rfl ?_
              first | refine K.d_skip rfl rfl rfl rfl ?_ | refine K.d_skipU rfl rfl rfl rfl rfl ?_ | refine K.d_puG rfl rfl rfl (fun _ _ => X.ia) rfl ?_
              first | refine K.d_skip rfl rfl rfl rfl ?_ | refine K.d_skipU rfl rfl rfl rfl rfl ?_ | refine K.d_puG rfl rfl rfl (fun _ _ => X.fa) rfl ?_
              first | refine K.d_skipS rfl rfl rfl rfl ?_ | refine K.d_skipUS rfl rfl rfl rfl rfl ?_ | refine K.d_stG rfl rfl rfl X.ld rfl ?_
              first | refine K.d_skipS rfl rfl rfl rfl ?_ | refine K.d_skipUS rfl rfl rfl rfl rfl ?_ | refine K.d_stG rfl rfl rfl X.ld rfl ?_
              first | refine K.d_skip rfl rfl rfl rfl ?_ | refine K.d_skipU rfl rfl rfl rfl rfl ?_ | refine K.d_puG rfl rfl rfl (fun _ _ => X.beql) rfl ?_
              first | refine K.d_skip rfl rfl rfl rfl ?_ | refine K.d_skipU rfl rfl rfl rfl rfl ?_ | refine K.d_puG rfl rfl rfl (fun _ _ => X.mv) rfl ?_
              first | refine K.d_skip rfl rfl rfl rfl ?_ | refine K.d_skipU rfl rfl rfl rfl rfl ?_ | refine K.d_puG rfl rfl rfl (fun _ _ => X.mv) rfl ?_
              first | refine K.d_skip rfl rfl rfl rfl ?_ | refine K.d_skipU rfl rfl rfl rfl rfl ?_ | refine K.d_puG rfl rfl rfl (fun _ _ => X.mv) rfl ?_
              first | refine K.d_skip rfl rfl rfl rfl ?_ | refine K.d_skipU rfl rfl rfl rfl rfl ?_ | refine K.d_puG rfl rfl rfl (fun _ _ => X.ia) rfl ?_
              first | refine K.d_skip rfl rfl rfl rfl ?_ | refine K.d_skipU rfl rfl rfl rfl rfl ?_ | refine K.d_puG rfl rfl rfl (fun _ _ => X.ia) rfl ?_
              first | refine K.d_skip rfl rfl rfl rfl ?_ | refine K.d_skipU rfl rfl rfl rfl rfl ?_ | refine K.d_puG rfl rfl rfl (fun _ _ => X.mv) rfl ?_
              first | refine K.d_skip rfl rfl rfl rfl ?_ | refine K.d_skipU rfl rfl rfl rfl rfl ?_ | refine K.d_puG rfl rfl rfl (fun _ _ => X.mv) rfl ?_
              first | refine K.d_skip rfl rfl rfl rfl ?_ | refine K.d_skipU rfl rfl rfl rfl rfl ?_ | refine K.d_puG rfl rfl rfl (fun _ _ => X.ia) rfl ?_
              first | refine K.d_skip rfl rfl rfl rfl ?_ | refine K.d_skipU rfl rfl rfl rfl rfl ?_ | refine K.d_puG rfl rfl rfl (fun _ _ => X.fa) rfl ?_
              first | refine K.d_skipS rfl rfl rfl rfl ?_ | refine K.d_skipUS rfl rfl rfl rfl rfl ?_ | refine K.d_stG rfl rfl rfl X.ld rfl ?_
              first | refine K.d_skipS rfl rfl rfl rfl ?_ | refine K.d_skipUS rfl rfl rfl rfl rfl ?_ | refine K.d_stG rfl rfl rfl X.ld rfl ?_
              first | refine K.d_skip rfl rfl rfl rfl ?_ | refine K.d_skipU rfl rfl rfl rfl rfl ?_ | refine K.d_puG rfl rfl rfl (fun _ _ => X.bneq) rfl ?_
              first | refine K.d_skip rfl rfl rfl rfl ?_ | refine K.d_skipU rfl rfl rfl rfl rfl ?_ | refine K.d_puG rfl rfl rfl (fun _ _ => X.pk) rfl ?_
              refine K.d_pu rfl (fun _ _ => X.pk) rfl ?_
              refine K.d_pu rfl (fun _ _ => X.sg) rfl ?_
              refine K.d_nil ?_
              (repeat' (first | refine X.rq ?_ | (refine X.rc ?_ ?_ <;> intro hc <;> first | (exfalso; omega) | skip)))
              refine K.a_round hKN ⟨j + 1, true⟩ ⟨by dsimp only; omega, ?_⟩ (by repeat (first | exact K.Sub.nil _ | refine K.Sub.cons rfl ?_)) rfl rfl (by dsimp only; omega)
              dsimp only
              rw [hat, Bool.true_or]
            | false =>
              by_cases h1 : p.1 = x2.txn
              · have heq : decide ((p.1 : Int) = (x2.txn : Int)) = true := decide_eq_true (by omega)
                rw [decide_eq_true h1] at hat
                by_cases h2 : p.2 = x2.txn
                · have hne : decide ((p.2 : Int) ≠ (x2.txn : Int)) = false := decide_eq_false (fun e => e (by omega))
                  rw [decide_eq_false (fun e => e h2)] at hat
                  refine X.draw ([]) [] (.pu 0 (.pu 1 (.pu 2 (.pu 3 (.pu 4 (.pu 5 (.pu 7 (.pu 8 (.pu 9 (.pu 10 (.st 6 (.st 11 (.pu 12 (.pu 13 (.pu 14 (.pu 15 (.pu 16 (.pu 17 (.pu 19 (.pu 20 (.pu 21 (.pu 22 (.st 18 (.st 23 (.pu 24 (.pu 25 (.pu 26 (.pu 27 .nil)))))))))))))))))))))))))))) ?_ (hQ := by repeat (first | with_reducible refine K.NoPanic.then ?_ | with_reducible refine K.NoPanic.inBlock ?_ | with_reducible exact K.post_noPanic _ _ | exact K.post_noPanic _ _))
                  refine K.d_pu rfl (fun _ _ => X.mv) rfl ?_
                  refine K.d_pu rfl (fun _ _ => X.mv) rfl ?_
                  first | refine K.d_skip rfl rfl rfl rfl ?_ | refine K.d_skipU rfl rfl rfl rfl rfl ?_ | refine K.d_puG rfl rfl rfl (fun _ _ => X.mv) rfl ?_
                  first | refine K.d_skip rfl rfl rfl rfl ?_ | refine K.d_skipU rfl rfl rfl rfl rfl ?_ | refine K.d_puG rfl rfl rfl (fun _ _ => X.mv) rfl ?_
                  first | refine K.d_skip rfl rfl rfl rfl ?_ | refine K.d_skipU rfl rfl rfl rfl rfl ?_ | refine K.d_puG rfl rfl rfl (fun _ _ => X.ia) rfl ?_
                  first | refine K.d_skip rfl rfl rfl rfl ?_ | refine K.d_skipU rfl rfl rfl rfl rfl ?_ | refine K.d_puG rfl rfl rfl (fun _ _ => X.ia) rfl ?_
                  first | refine K.d_skip rfl rfl rfl rfl ?_ | refine K.d_skipU rfl rfl rfl rfl rfl ?_ | refine K.d_puG rfl rfl rfl (fun _ _ => X.mv) rfl ?_
                  first | refine K.d_skip rfl rfl rfl rfl ?_ | refine K.d_skipU rfl rfl rfl rfl rfl ?_ | refine K.d_puG rfl rfl rfl (fun _ _ => X.mv) rfl ?_
                  first | refine K.d_skip rfl rfl rfl rfl ?_ | refine K.d_skipU rfl rfl rfl rfl rfl ?_ | refine K.d_puG rfl rfl rfl (fun _ _ => X.ia) rfl ?_
                  first | refine K.d_skip rfl rfl rfl rfl ?_ | refine K.d_skipU rfl rfl rfl rfl rfl ?_ | refine K.d_puG rfl rfl rfl (fun _ _ => X.fa) rfl ?_
                  refine K.d_stG rfl rfl rfl (K.p_load (v := .int .u32 p.1) (Fx.agg rfl) rfl (Cels.up hcp).1) rfl ?_
                  refine K.d_stG rfl rfl rfl (K.p_load (v := .int .u32 x2.txn) (Fx.agg rfl) rfl (Cels.up hcl).1) rfl ?_
                  first | refine K.d_skip rfl rfl rfl rfl ?_ | refine K.d_skipU rfl rfl rfl rfl rfl ?_ | refine K.d_puG rfl rfl rfl (fun _ _ => X.beql) rfl ?_
                  rw [heq]
                  first | refine K.d_skip rfl rfl rfl rfl ?_ | refine K.d_skipU rfl rfl rfl rfl rfl ?_ | refine K.d_puG rfl rfl rfl (fun _ _ => X.mv) rfl ?_
                  first | refine K.d_skip rfl rfl rfl rfl ?_ | refine K.d_skipU rfl rfl rfl rfl rfl ?_ | refine K.d_puG rfl rfl rfl (fun _ _ => X.mv) rfl ?_
                  first | refine K.d_skip rfl rfl rfl rfl ?_ | refine K.d_skipU rfl rfl rfl rfl rfl ?_ | refine K.d_puG rfl rfl rfl (fun _ _ => X.mv) rfl ?_
                  first | refine K.d_skip rfl rfl rfl rfl ?_ | refine K.d_skipU rfl rfl rfl rfl rfl ?_ | refine K.d_puG rfl rfl rfl (fun _ _ => X.ia) rfl ?_
                  first | refine K.d_skip rfl rfl rfl rfl ?_ | refine K.d_skipU rfl rfl rfl rfl rfl ?_ | refine K.d_puG rfl rfl rfl (fun _ _ => X.ia) rfl ?_
                  first | refine K.d_skip rfl rfl rfl rfl ?_ | refine K.d_skipU rfl rfl rfl rfl rfl ?_ | refine K.d_puG rfl rfl rfl (fun _ _ => X.mv) rfl ?_
                  first | refine K.d_skip rfl rfl rfl rfl ?_ | refine K.d_skipU rfl rfl rfl rfl rfl ?_ | refine K.d_puG rfl rfl rfl (fun _ _ => X.mv) rfl ?_
                  first | refine K.d_skip rfl rfl rfl rfl ?_ | refine K.d_skipU rfl rfl rfl rfl rfl ?_ | refine K.d_puG rfl rfl rfl (fun _ _ => X.ia) rfl ?_
                  first | refine K.d_skip rfl rfl rfl rfl ?_ | refine K.d_skipU rfl rfl rfl rfl rfl ?_ | refine K.d_puG rfl rfl rfl (fun _ _ => X.fa) rfl ?_
                  refine K.d_stG rfl rfl rfl (K.p_load (v := .int .u32 p.2) (Fx.agg rfl) rfl (Cels.up hcp).2.1) rfl ?_
                  refine K.d_stG rfl rfl rfl (K.p_load (v := .int .u32 x2.txn) (Fx.agg rfl) rfl (Cels.up hcl).1) rfl ?_
                  first | refine K.d_skip rfl rfl rfl rfl ?_ | refine K.d_skipU rfl rfl rfl rfl rfl ?_ | refine K.d_puG rfl rfl rfl (fun _ _ => X.bneq) rfl ?_
                  rw [hne]
                  first | refine K.d_skip rfl rfl rfl rfl ?_ | refine K.d_skipU rfl rfl rfl rfl rfl ?_ | refine K.d_puG rfl rfl rfl (fun _ _ => X.pk) rfl ?_
                  refine K.d_pu rfl (fun _ _ => X.pk) rfl ?_
                  refine K.d_pu rfl (fun _ _ => X.sg) rfl ?_
                  refine K.d_nil ?_
                  (repeat' (first | refine X.rq ?_ | (refine X.rc ?_ ?_ <;> intro hc <;> first | (exfalso; omega) | skip)))
                  refine K.a_round hKN ⟨j + 1, false⟩ ⟨by dsimp only; omega, ?_⟩ (by repeat (first | exact K.Sub.nil _ | refine K.Sub.cons rfl ?_)) rfl rfl (by dsimp only; omega)
                  dsimp only
                  rw [hat]; rfl
                · have hne : decide ((p.2 : Int) ≠ (x2.txn : Int)) = true := decide_eq_true (by omega)
                  rw [decide_eq_true h2] at hat
                  refine X.draw ([]) [] (.pu 0 (.pu 1 (.pu 2 (.pu 3 (.pu 4 (.pu 5 (.pu 7 (.pu 8 (.pu 9 (.pu 10 (.st 6 (.st 11 (.pu 12 (.pu 13 (.pu 14 (.pu 15 (.pu 16 (.pu 17 (.pu 19 (.pu 20 (.pu 21 (.pu 22 (.st 18 (.st 23 (.pu 24 (.pu 25 (.pu 26 (.pu 27 .nil)))))))))))))))))))))))))))) ?_ (hQ := by repeat (first | with_reducible refine K.NoPanic.then ?_ | with_reducible refine K.NoPanic.inBlock ?_ | with_reducible exact K.post_noPanic _ _ | exact K.post_noPanic _ _))
                  refine K.d_pu rfl (fun _ _ => X.mv) rfl ?_
                  refine K.d_pu rfl (fun _ _ => X.mv) rfl ?_
                  first | refine K.d_skip rfl rfl rfl rfl ?_ | refine K.d_skipU rfl rfl rfl rfl rfl ?_ | refine K.d_puG rfl rfl rfl (fun _ _ => X.mv) rfl ?_
                  first | refine K.d_skip rfl rfl rfl rfl ?_ | refine K.d_skipU rfl rfl rfl rfl rfl ?_ | refine K.d_puG rfl rfl rfl (fun _ _ => X.mv) rfl ?_
                  first | refine K.d_skip rfl rfl rfl rfl ?_ | refine K.d_skipU rfl rfl rfl rfl rfl ?_ | refine K.d_puG rfl rfl rfl (fun _ _ => X.ia) rfl ?_
                  first | refine K.d_skip rfl rfl rfl rfl ?_ | refine K.d_skipU rfl rfl rfl rfl rfl ?_ | refine K.d_puG rfl rfl rfl (fun _ _ => X.ia) rfl ?_
                  first | refine K.d_skip rfl rfl rfl rfl ?_ | refine K.d_skipU rfl rfl rfl rfl rfl ?_ | refine K.d_puG rfl rfl rfl (fun _ _ => X.mv) rfl ?_
                  first | refine K.d_skip rfl rfl rfl rfl ?_ | refine K.d_skipU rfl rfl rfl rfl rfl ?_ | refine K.d_puG rfl rfl rfl (fun _ _ => X.mv) rfl ?_
                  first | refine K.d_skip rfl rfl rfl rfl ?_ | refine K.d_skipU rfl rfl rfl rfl rfl ?_ | refine K.d_puG rfl rfl rfl (fun _ _ => X.ia) rfl ?_
                  first | refine K.d_skip rfl rfl rfl rfl ?_ | refine K.d_skipU rfl rfl rfl rfl rfl ?_ | refine K.d_puG rfl rfl rfl (fun _ _ => X.fa) rfl ?_
                  refine K.d_stG rfl rfl rfl (K.p_load (v := .int .u32 p.1) (Fx.agg rfl) rfl (Cels.up hcp).1) rfl ?_
                  refine K.d_stG rfl rfl rfl (K.p_load (v := .int .u32 x2.txn) (Fx.agg rfl) rfl (Cels.up hcl).1) rfl ?_
                  first | refine K.d_skip rfl rfl rfl rfl ?_ | refine K.d_skipU rfl rfl rfl rfl rfl ?_ | refine K.d_puG rfl rfl rfl (fun _ _ => X.beql) rfl ?_
                  rw [heq]
                  first | refine K.d_skip rfl rfl rfl rfl ?_ | refine K.d_skipU rfl rfl rfl rfl rfl ?_ | refine K.d_puG rfl rfl rfl (fun _ _ => X.mv) rfl ?_
                  first | refine K.d_skip rfl rfl rfl rfl ?_ | refine K.d_skipU rfl rfl rfl rfl rfl ?_ | refine K.d_puG rfl rfl rfl (fun _ _ => X.mv) rfl ?_
                  first | refine K.d_skip rfl rfl rfl rfl ?_ | refine K.d_skipU rfl rfl rfl rfl rfl ?_ | refine K.d_puG rfl rfl rfl (fun _ _ => X.mv) rfl ?_
                  first | refine K.d_skip rfl rfl rfl rfl ?_ | refine K.d_skipU rfl rfl rfl rfl rfl ?_ | refine K.d_puG rfl rfl rfl (fun _ _ => X.ia) rfl ?_
                  first | refine K.d_skip rfl rfl rfl rfl ?_ | refine K.d_skipU rfl rfl rfl rfl rfl ?_ | refine K.d_puG rfl rfl rfl (fun _ _ => X.ia) rfl ?_
                  first | refine K.d_skip rfl rfl rfl rfl ?_ | refine K.d_skipU rfl rfl rfl rfl rfl ?_ | refine K.d_puG rfl rfl rfl (fun _ _ => X.mv) rfl ?_
                  first | refine K.d_skip rfl rfl rfl rfl ?_ | refine K.d_skipU rfl rfl rfl rfl rfl ?_ | refine K.d_puG rfl rfl rfl (fun _ _ => X.mv) rfl ?_
                  first | refine K.d_skip rfl rfl rfl rfl ?_ | refine K.d_skipU rfl rfl rfl rfl rfl ?_ | refine K.d_puG rfl rfl rfl (fun _ _ => X.ia) rfl ?_
                  first | refine K.d_skip rfl rfl rfl rfl ?_ | refine K.d_skipU rfl rfl rfl rfl rfl ?_ | refine K.d_puG rfl rfl rfl (fun _ _ => X.fa) rfl ?_
                  refine K.d_stG rfl rfl rfl (K.p_load (v := .int .u32 p.2) (Fx.agg rfl) rfl (Cels.up hcp).2.1) rfl ?_
                  refine K.d_stG rfl rfl rfl (K.p_load (v := .int .u32 x2.txn) (Fx.agg rfl) rfl (Cels.up hcl).1) rfl ?_
                  first | refine K.d_skip rfl rfl rfl rfl ?_ | refine K.d_skipU rfl rfl rfl rfl rfl ?_ | refine K.d_puG rfl rfl rfl (fun _ _ => X.bneq) rfl ?_
                  rw [hne]
                  first | refine K.d_skip rfl rfl rfl rfl ?_ | refine K.d_skipU rfl rfl rfl rfl rfl ?_ | refine K.d_puG rfl rfl rfl (fun _ _ => X.pk) rfl ?_
                  refine K.d_pu rfl (fun _ _ => X.pk) rfl ?_
                  refine K.d_pu rfl (fun _ _ => X.sg) rfl ?_
                  refine K.d_nil ?_
                  (repeat' (first | refine X.rq ?_ | (refine X.rc ?_ ?_ <;> intro hc <;> first | (exfalso; omega) | skip)))
                  refine K.a_round hKN ⟨j + 1, true⟩ ⟨by dsimp only; omega, ?_⟩ (by repeat (first | exact K.Sub.nil _ | refine K.Sub.cons rfl ?_)) rfl rfl (by dsimp only; omega)
                  dsimp only
                  rw [hat]; rfl
              · have heq : decide ((p.1 : Int) = (x2.txn : Int)) = false := decide_eq_false (by omega)
                rw [decide_eq_false h1] at hat
                refine X.draw ([]) [] (.pu 0 (.pu 1 (.pu 2 (.pu 3 (.pu 4 (.pu 5 (.pu 7 (.pu 8 (.pu 9 (.pu 10 (.st 6 (.st 11 (.pu 12 (.pu 13 (.pu 14 (.pu 15 (.pu 16 (.pu 17 (.pu 19 (.pu 20 (.pu 21 (.pu 22 (.st 18 (.st 23 (.pu 24 (.pu 25 (.pu 26 (.pu 27 .nil)))))))))))))))))))))))))))) ?_ (hQ := by repeat (first | with_reducible refine K.NoPanic.then ?_ | with_reducible refine K.NoPanic.inBlock ?_ | with_reducible exact K.post_noPanic _ _ | exact K.post_noPanic _ _))
                refine K.d_pu rfl (fun _ _ => X.mv) rfl ?_
                refine K.d_pu rfl (fun _ _ => X.mv) rfl ?_
                first | refine K.d_skip rfl rfl rfl rfl ?_ | refine K.d_skipU rfl rfl rfl rfl rfl ?_ | refine K.d_puG rfl rfl rfl (fun _ _ => X.mv) rfl ?_
                first | refine K.d_skip rfl rfl rfl rfl ?_ | refine K.d_skipU rfl rfl rfl rfl rfl ?_ | refine K.d_puG rfl rfl rfl (fun _ _ => X.mv) rfl ?_
                first | refine K.d_skip rfl rfl rfl rfl ?_ | refine K.d_skipU rfl rfl rfl rfl rfl ?_ | refine K.d_puG rfl rfl rfl (fun _ _ => X.ia) rfl ?_
                first | refine K.d_skip rfl rfl rfl rfl ?_ | refine K.d_skipU rfl rfl rfl rfl rfl ?_ | refine K.d_puG rfl rfl rfl (fun _ _ => X.ia) rfl ?_
                first | refine K.d_skip rfl rfl rfl rfl ?_ | refine K.d_skipU rfl rfl rfl rfl rfl ?_ | refine K.d_puG rfl rfl rfl (fun _ _ => X.mv) rfl ?_
                first | refine K.d_skip rfl rfl rfl rfl ?_ | refine K.d_skipU rfl rfl rfl rfl rfl ?_ | refine K.d_puG rfl rfl rfl (fun _ _ => X.mv) rfl ?_
                first | refine K.d_skip rfl rfl rfl rfl ?_ | refine K.d_skipU rfl rfl rfl rfl rfl ?_ | refine K.d_puG rfl rfl rfl (fun _ _ => X.ia) rfl ?_
                first | refine K.d_skip rfl rfl rfl rfl ?_ | refine K.d_skipU rfl rfl rfl rfl rfl ?_ | refine K.d_puG rfl rfl rfl (fun _ _ => X.fa) rfl ?_
                refine K.d_stG rfl rfl rfl (K.p_load (v := .int .u32 p.1) (Fx.agg rfl) rfl (Cels.up hcp).1) rfl ?_
                refine K.d_stG rfl rfl rfl (K.p_load (v := .int .u32 x2.txn) (Fx.agg rfl) rfl (Cels.up hcl).1) rfl ?_
                first | refine K.d_skip rfl rfl rfl rfl ?_ | refine K.d_skipU rfl rfl rfl rfl rfl ?_ | refine K.d_puG rfl rfl rfl (fun _ _ => X.beql) rfl ?_
                rw [heq]
                first | refine K.d_skip rfl rfl rfl rfl ?_ | refine K.d_skipU rfl rfl rfl rfl rfl ?_ | refine K.d_puG rfl rfl rfl (fun _ _ => X.mv) rfl ?_
                first | refine K.d_skip rfl rfl rfl rfl ?_ | refine K.d_skipU rfl rfl rfl rfl rfl ?_ | refine K.d_puG rfl rfl rfl (fun _ _ => X.mv) rfl ?_
                first | refine K.d_skip rfl rfl rfl rfl ?_ | refine K.d_skipU rfl rfl rfl rfl rfl ?_ | refine K.d_puG rfl rfl rfl (fun _ _ => X.mv) rfl ?_
                first | refine K.d_skip rfl rfl rfl rfl ?_ | refine K.d_skipU rfl rfl rfl rfl rfl ?_ | refine K.d_puG rfl rfl rfl (fun _ _ => X.ia) rfl ?_
                first | refine K.d_skip rfl rfl rfl rfl ?_ | refine K.d_skipU rfl rfl rfl rfl rfl ?_ | refine K.d_puG rfl rfl rfl (fun _ _ => X.ia) rfl ?_
                first | refine K.d_skip rfl rfl rfl rfl ?_ | refine K.d_skipU rfl rfl rfl rfl rfl ?_ | refine K.d_puG rfl rfl rfl (fun _ _ => X.mv) rfl ?_
                first | refine K.d_skip rfl rfl rfl rfl ?_ | refine K.d_skipU rfl rfl rfl rfl rfl ?_ | refine K.d_puG rfl rfl rfl (fun _ _ => X.mv) rfl ?_
                first | refine K.d_skip rfl rfl rfl rfl ?_ | refine K.d_skipU rfl rfl rfl rfl rfl ?_ | refine K.d_puG rfl rfl rfl (fun _ _ => X.ia) rfl ?_
                first | refine K.d_skip rfl rfl rfl rfl ?_ | refine K.d_skipU rfl rfl rfl rfl rfl ?_ | refine K.d_puG rfl rfl rfl (fun _ _ => X.fa) rfl ?_
                first | refine K.d_skipS rfl rfl rfl rfl ?_ | refine K.d_skipUS rfl rfl rfl rfl rfl ?_ | refine K.d_stG rfl rfl rfl X.ld rfl ?_
                first | refine K.d_skipS rfl rfl rfl rfl ?_ | refine K.d_skipUS rfl rfl rfl rfl rfl ?_ | refine K.d_stG rfl rfl rfl X.ld rfl ?_
                first | refine K.d_skip rfl rfl rfl rfl ?_ | refine K.d_skipU rfl rfl rfl rfl rfl ?_ | refine K.d_puG rfl rfl rfl (fun _ _ => X.bneq) rfl ?_
                first | refine K.d_skip rfl rfl rfl rfl ?_ | refine K.d_skipU rfl rfl rfl rfl rfl ?_ | refine K.d_puG rfl rfl rfl (fun _ _ => X.pk) rfl ?_
                refine K.d_pu rfl (fun _ _ => X.pk) rfl ?_
                refine K.d_pu rfl (fun _ _ => X.sg) rfl ?_
                refine K.d_nil ?_
                (repeat' (first | refine X.rq ?_ | (refine X.rc ?_ ?_ <;> intro hc <;> first | (exfalso; omega) | skip)))
                refine K.a_round hKN ⟨j + 1, false⟩ ⟨by dsimp only; omega, ?_⟩ (by repeat (first | exact K.Sub.nil _ | refine K.Sub.cons rfl ?_)) rfl rfl (by dsimp only; omega)
                dsimp only
                rw [hat]; rfl
          · obtain rfl : j = w.length := by omega
            rw [List.take_length] at hb2
            (repeat' (first | refine X.rq ?_ | (refine X.rc ?_ ?_ <;> intro hc <;> first | (exfalso; omega) | skip)))
            cases hh : x2.held with
            | true =>
              have hhs := HasA h3 BT a2 k2 l2 x2.txn x2.thing x2.mode hinv2.wf hG3 (hinv2.wf x2 hm2).thing (by omega)
              rw [held_has hinv2 hm2 hh] at hhs
              refine X.draw ([]) [] (.pu 0 (.pu 1 (.pu 2 (.pu 3 (.st 4 (.pu 5 (.pu 6 (.pu 7 (.pu 8 (.pu 9 (.pu 10 (.pu 12 (.pu 13 (.pu 14 (.pu 15 (.pu 17 (.pu 18 (.pu 19 (.pu 20 (.st 11 (.st 16 (.st 21 (.on 22 (.pu 23 (.pu 24 (.pu 25 (.pu 26 (.pu 27 (.pu 28 (.pu 29 (.st 30 (.pu 31 (.pu 32 (.pu 33 (.pu 34 (.pu 35 (.pu 36 .nil))))))))))))))))))))))))))))))))))))) ?_ (hQ := by repeat (first | with_reducible refine K.NoPanic.then ?_ | with_reducible refine K.NoPanic.inBlock ?_ | with_reducible exact K.post_noPanic _ _ | exact K.post_noPanic _ _))
              refine K.d_pu rfl (fun _ _ => X.mv) rfl ?_
              refine K.d_pu rfl (fun _ _ => X.mv) rfl ?_
              refine K.d_pu rfl (fun _ _ => X.ia) rfl ?_
              refine K.d_pu rfl (fun _ _ => X.fa) rfl ?_
              refine K.d_st rfl (K.p_load (v := .bool true) (Fx.agg rfl) rfl (by show Cel _ _ _ _ (Value.bool _); rw [← hh]; exact (Cels.up hcl).2.2.2.2.2.2.1)) rfl ?_
              refine K.d_pu rfl (fun _ _ => X.mv) rfl ?_
              first | refine K.d_skip rfl rfl rfl rfl ?_ | refine K.d_skipU rfl rfl rfl rfl rfl ?_ | refine K.d_puG rfl rfl rfl (fun _ _ => X.mv) rfl ?_
              first | refine K.d_skip rfl rfl rfl rfl ?_ | refine K.d_skipU rfl rfl rfl rfl rfl ?_ | refine K.d_puG rfl rfl rfl (fun _ _ => X.mv) rfl ?_
              first | refine K.d_skip rfl rfl rfl rfl ?_ | refine K.d_skipU rfl rfl rfl rfl rfl ?_ | refine K.d_puG rfl rfl rfl (fun _ _ => X.mv) rfl ?_
              first | refine K.d_skip rfl rfl rfl rfl ?_ | refine K.d_skipU rfl rfl rfl rfl rfl ?_ | refine K.d_puG rfl rfl rfl (fun _ _ => X.ia) rfl ?_
              first | refine K.d_skip rfl rfl rfl rfl ?_ | refine K.d_skipU rfl rfl rfl rfl rfl ?_ | refine K.d_puG rfl rfl rfl (fun _ _ => X.fa) rfl ?_
              first | refine K.d_skip rfl rfl rfl rfl ?_ | refine K.d_skipU rfl rfl rfl rfl rfl ?_ | refine K.d_puG rfl rfl rfl (fun _ _ => X.mv) rfl ?_
              first | refine K.d_skip rfl rfl rfl rfl ?_ | refine K.d_skipU rfl rfl rfl rfl rfl ?_ | refine K.d_puG rfl rfl rfl (fun _ _ => X.mv) rfl ?_
              first | refine K.d_skip rfl rfl rfl rfl ?_ | refine K.d_skipU rfl rfl rfl rfl rfl ?_ | refine K.d_puG rfl rfl rfl (fun _ _ => X.ia) rfl ?_
              first | refine K.d_skip rfl rfl rfl rfl ?_ | refine K.d_skipU rfl rfl rfl rfl rfl ?_ | refine K.d_puG rfl rfl rfl (fun _ _ => X.fa) rfl ?_
              first | refine K.d_skip rfl rfl rfl rfl ?_ | refine K.d_skipU rfl rfl rfl rfl rfl ?_ | refine K.d_puG rfl rfl rfl (fun _ _ => X.mv) rfl ?_
              first | refine K.d_skip rfl rfl rfl rfl ?_ | refine K.d_skipU rfl rfl rfl rfl rfl ?_ | refine K.d_puG rfl rfl rfl (fun _ _ => X.mv) rfl ?_
              first | refine K.d_skip rfl rfl rfl rfl ?_ | refine K.d_skipU rfl rfl rfl rfl rfl ?_ | refine K.d_puG rfl rfl rfl (fun _ _ => X.ia) rfl ?_
              first | refine K.d_skip rfl rfl rfl rfl ?_ | refine K.d_skipU rfl rfl rfl rfl rfl ?_ | refine K.d_puG rfl rfl rfl (fun _ _ => X.fa) rfl ?_
              refine K.d_stG rfl rfl rfl (K.p_load (v := .int .u32 x2.txn) (Fx.agg rfl) rfl (Cels.up hcl).1) rfl ?_
              refine K.d_stG rfl rfl rfl (K.p_loadN (vs := cT x2.thing) (Fx.agg rfl) (Fx.sz rfl) rfl (thing_at (Cels.up hcl))) rfl ?_
              refine K.d_stG rfl rfl rfl (K.p_load (v := .int .i64 x2.mode) (Fx.agg rfl) rfl (Cels.up hcl).2.2.2.2.2.1) rfl ?_
              refine K.d_on rfl (fun KK hKK => ?_)
              refine K.s_take rfl rfl ?_
              refine K.l_callV (Fx.cal rfl) rfl hhs (K.pp [0, 0] rfl) rfl rfl ?_
              simp only [List.nil_append, List.cons_append]
              simp only [List.set_cons_zero, List.set_cons_succ, List.eraseIdx_cons_zero, List.eraseIdx_cons_succ, List.cons_append, List.nil_append]
              refine K.l_nil ?_
              refine X.onE hKK ?_
              first | refine K.d_skip rfl rfl rfl rfl ?_ | refine K.d_skipU rfl rfl rfl rfl rfl ?_ | refine K.d_puG rfl rfl rfl (fun _ _ => X.nt) rfl ?_
              refine K.d_pu rfl (fun _ _ => X.pk) rfl ?_
              refine K.d_pu rfl (fun _ _ => X.mv) rfl ?_
              first | refine K.d_skip rfl rfl rfl rfl ?_ | refine K.d_skipU rfl rfl rfl rfl rfl ?_ | refine K.d_puG rfl rfl rfl (fun _ _ => X.mv) rfl ?_
              first | refine K.d_skip rfl rfl rfl rfl ?_ | refine K.d_skipU rfl rfl rfl rfl rfl ?_ | refine K.d_puG rfl rfl rfl (fun _ _ => X.mv) rfl ?_
              first | refine K.d_skip rfl rfl rfl rfl ?_ | refine K.d_skipU rfl rfl rfl rfl rfl ?_ | refine K.d_puG rfl rfl rfl (fun _ _ => X.ia) rfl ?_
              first | refine K.d_skip rfl rfl rfl rfl ?_ | refine K.d_skipU rfl rfl rfl rfl rfl ?_ | refine K.d_puG rfl rfl rfl (fun _ _ => X.fa) rfl ?_
              refine K.d_stG rfl rfl rfl (K.p_load (v := .bool true) (Fx.agg rfl) rfl (by show Cel _ _ _ _ (Value.bool _); rw [← hh]; exact (Cels.up hcl).2.2.2.2.2.2.1)) rfl ?_
              first | refine K.d_skip rfl rfl rfl rfl ?_ | refine K.d_skipU rfl rfl rfl rfl rfl ?_ | refine K.d_puG rfl rfl rfl (fun _ _ => X.nt) rfl ?_
              first | refine K.d_skip rfl rfl rfl rfl ?_ | refine K.d_skipU rfl rfl rfl rfl rfl ?_ | refine K.d_puG rfl rfl rfl (fun _ _ => X.mv) rfl ?_
              first | refine K.d_skip rfl rfl rfl rfl ?_ | refine K.d_skipU rfl rfl rfl rfl rfl ?_ | refine K.d_puG rfl rfl rfl (fun _ _ => X.mv) rfl ?_
              first | refine K.d_skip rfl rfl rfl rfl ?_ | refine K.d_skipU rfl rfl rfl rfl rfl ?_ | refine K.d_puG rfl rfl rfl (fun _ _ => X.nt) rfl ?_
              first | refine K.d_skip rfl rfl rfl rfl ?_ | refine K.d_skipU rfl rfl rfl rfl rfl ?_ | refine K.d_puG rfl rfl rfl (fun _ _ => X.pk) rfl ?_
              refine K.d_pu rfl (fun _ _ => X.pk) rfl ?_
              refine K.d_nil ?_
              (repeat' (first | refine X.rq ?_ | (refine X.rc ?_ ?_ <;> intro hc <;> first | (exfalso; omega) | skip)))
              refine K.a_round hKM (k + 1) (by omega) (by repeat (first | exact K.Sub.nil _ | refine K.Sub.cons rfl ?_)) rfl rfl (by omega)
            | false =>
              obtain ⟨p, hp, e1, e2⟩ := hwx2 hh
              obtain rfl : b = true := hb2.trans (List.any_eq_true.2 ⟨p, hp, by unfold forP; rw [decide_eq_true e1, decide_eq_true e2]; rfl⟩)
              refine X.draw ([]) [] (.pu 0 (.pu 1 (.pu 2 (.pu 3 (.st 4 (.pu 5 (.pu 6 (.pu 7 (.pu 8 (.pu 9 (.pu 10 (.pu 12 (.pu 13 (.pu 14 (.pu 15 (.pu 17 (.pu 18 (.pu 19 (.pu 20 (.st 11 (.st 16 (.st 21 (.on 22 (.pu 23 (.pu 24 (.pu 25 (.pu 26 (.pu 27 (.pu 28 (.pu 29 (.st 30 (.pu 31 (.pu 32 (.pu 33 (.pu 34 (.pu 35 (.pu 36 .nil))))))))))))))))))))))))))))))))))))) ?_ (hQ := by repeat (first | with_reducible refine K.NoPanic.then ?_ | with_reducible refine K.NoPanic.inBlock ?_ | with_reducible exact K.post_noPanic _ _ | exact K.post_noPanic _ _))
              refine K.d_pu rfl (fun _ _ => X.mv) rfl ?_
              refine K.d_pu rfl (fun _ _ => X.mv) rfl ?_
              refine K.d_pu rfl (fun _ _ => X.ia) rfl ?_
              refine K.d_pu rfl (fun _ _ => X.fa) rfl ?_
              refine K.d_st rfl (K.p_load (v := .bool false) (Fx.agg rfl) rfl (by show Cel _ _ _ _ (Value.bool _); rw [← hh]; exact (Cels.up hcl).2.2.2.2.2.2.1)) rfl ?_
              refine K.d_pu rfl (fun _ _ => X.mv) rfl ?_
              first | refine K.d_skip rfl rfl rfl rfl ?_ | refine K.d_skipU rfl rfl rfl rfl rfl ?_ | refine K.d_puG rfl rfl rfl (fun _ _ => X.mv) rfl ?_
              first | refine K.d_skip rfl rfl rfl rfl ?_ | refine K.d_skipU rfl rfl rfl rfl rfl ?_ | refine K.d_puG rfl rfl rfl (fun _ _ => X.mv) rfl ?_
              first | refine K.d_skip rfl rfl rfl rfl ?_ | refine K.d_skipU rfl rfl rfl rfl rfl ?_ | refine K.d_puG rfl rfl rfl (fun _ _ => X.mv) rfl ?_
              first | refine K.d_skip rfl rfl rfl rfl ?_ | refine K.d_skipU rfl rfl rfl rfl rfl ?_ | refine K.d_puG rfl rfl rfl (fun _ _ => X.ia) rfl ?_
              first | refine K.d_skip rfl rfl rfl rfl ?_ | refine K.d_skipU rfl rfl rfl rfl rfl ?_ | refine K.d_puG rfl rfl rfl (fun _ _ => X.fa) rfl ?_
              first | refine K.d_skip rfl rfl rfl rfl ?_ | refine K.d_skipU rfl rfl rfl rfl rfl ?_ | refine K.d_puG rfl rfl rfl (fun _ _ => X.mv) rfl ?_
              first | refine K.d_skip rfl rfl rfl rfl ?_ | refine K.d_skipU rfl rfl rfl rfl rfl ?_ | refine K.d_puG rfl rfl rfl (fun _ _ => X.mv) rfl ?_
              first | refine K.d_skip rfl rfl rfl rfl ?_ | refine K.d_skipU rfl rfl rfl rfl rfl ?_ | refine K.d_puG rfl rfl rfl (fun _ _ => X.ia) rfl ?_
              first | refine K.d_skip rfl rfl rfl rfl ?_ | refine K.d_skipU rfl rfl rfl rfl rfl ?_ | refine K.d_puG rfl rfl rfl (fun _ _ => X.fa) rfl ?_
              first | refine K.d_skip rfl rfl rfl rfl ?_ | refine K.d_skipU rfl rfl rfl rfl rfl ?_ | refine K.d_puG rfl rfl rfl (fun _ _ => X.mv) rfl ?_
              first | refine K.d_skip rfl rfl rfl rfl ?_ | refine K.d_skipU rfl rfl rfl rfl rfl ?_ | refine K.d_puG rfl rfl rfl (fun _ _ => X.mv) rfl ?_
              first | refine K.d_skip rfl rfl rfl rfl ?_ | refine K.d_skipU rfl rfl rfl rfl rfl ?_ | refine K.d_puG rfl rfl rfl (fun _ _ => X.ia) rfl ?_
              first | refine K.d_skip rfl rfl rfl rfl ?_ | refine K.d_skipU rfl rfl rfl rfl rfl ?_ | refine K.d_puG rfl rfl rfl (fun _ _ => X.fa) rfl ?_
              first | refine K.d_skipS rfl rfl rfl rfl ?_ | refine K.d_skipUS rfl rfl rfl rfl rfl ?_ | refine K.d_stG rfl rfl rfl X.ld rfl ?_
              first | refine K.d_skipS rfl rfl rfl rfl ?_ | refine K.d_skipUS rfl rfl rfl rfl rfl ?_ | refine K.d_stG rfl rfl rfl X.ld rfl ?_
              first | refine K.d_skipS rfl rfl rfl rfl ?_ | refine K.d_skipUS rfl rfl rfl rfl rfl ?_ | refine K.d_stG rfl rfl rfl X.ld rfl ?_
              refine K.d_on rfl (fun KK hKK => ?_)
              first | refine K.s_skip rfl rfl rfl ?_ | refine K.s_skipU rfl rfl rfl rfl ?_
              refine K.l_nil ?_
              refine X.onE hKK ?_
              first | refine K.d_skip rfl rfl rfl rfl ?_ | refine K.d_skipU rfl rfl rfl rfl rfl ?_ | refine K.d_puG rfl rfl rfl (fun _ _ => X.nt) rfl ?_
              refine K.d_pu rfl (fun _ _ => X.pk) rfl ?_
              refine K.d_pu rfl (fun _ _ => X.mv) rfl ?_
              first | refine K.d_skip rfl rfl rfl rfl ?_ | refine K.d_skipU rfl rfl rfl rfl rfl ?_ | refine K.d_puG rfl rfl rfl (fun _ _ => X.mv) rfl ?_
              first | refine K.d_skip rfl rfl rfl rfl ?_ | refine K.d_skipU rfl rfl rfl rfl rfl ?_ | refine K.d_puG rfl rfl rfl (fun _ _ => X.mv) rfl ?_
              first | refine K.d_skip rfl rfl rfl rfl ?_ | refine K.d_skipU rfl rfl rfl rfl rfl ?_ | refine K.d_puG rfl rfl rfl (fun _ _ => X.ia) rfl ?_
              first | refine K.d_skip rfl rfl rfl rfl ?_ | refine K.d_skipU rfl rfl rfl rfl rfl ?_ | refine K.d_puG rfl rfl rfl (fun _ _ => X.fa) rfl ?_
              refine K.d_stG rfl rfl rfl (K.p_load (v := .bool false) (Fx.agg rfl) rfl (by show Cel _ _ _ _ (Value.bool _); rw [← hh]; exact (Cels.up hcl).2.2.2.2.2.2.1)) rfl ?_
              first | refine K.d_skip rfl rfl rfl rfl ?_ | refine K.d_skipU rfl rfl rfl rfl rfl ?_ | refine K.d_puG rfl rfl rfl (fun _ _ => X.nt) rfl ?_
              first | refine K.d_skip rfl rfl rfl rfl ?_ | refine K.d_skipU rfl rfl rfl rfl rfl ?_ | refine K.d_puG rfl rfl rfl (fun _ _ => X.mv) rfl ?_
              first | refine K.d_skip rfl rfl rfl rfl ?_ | refine K.d_skipU rfl rfl rfl rfl rfl ?_ | refine K.d_puG rfl rfl rfl (fun _ _ => X.mv) rfl ?_
              first | refine K.d_skip rfl rfl rfl rfl ?_ | refine K.d_skipU rfl rfl rfl rfl rfl ?_ | refine K.d_puG rfl rfl rfl (fun _ _ => X.nt) rfl ?_
              first | refine K.d_skip rfl rfl rfl rfl ?_ | refine K.d_skipU rfl rfl rfl rfl rfl ?_ | refine K.d_puG rfl rfl rfl (fun _ _ => X.pk) rfl ?_
              refine K.d_pu rfl (fun _ _ => X.pk) rfl ?_
              refine K.d_nil ?_
              (repeat' (first | refine X.rq ?_ | (refine X.rc ?_ ?_ <;> intro hc <;> first | (exfalso; omega) | skip)))
              refine K.a_round hKM (k + 1) (by omega) (by repeat (first | exact K.Sub.nil _ | refine K.Sub.cons rfl ?_)) rfl rfl (by omega)
        · obtain rfl : k = l2.length := by omega
          (repeat' (first | refine X.rq ?_ | (refine X.rc ?_ ?_ <;> intro hc <;> first | (exfalso; omega) | skip)))
          refine K.a_round hKL ⟨h3, i + 1, a2, k2, l2⟩ ⟨hle3, by dsimp only; omega, hinv2, hll2⟩ (by repeat (first | exact K.Sub.nil _ | refine K.Sub.cons rfl ?_)) rfl rfl (by dsimp only; omega)
    · obtain rfl : i = l0.length := by omega
      (repeat' (first | refine X.rq ?_ | (refine X.rc ?_ ?_ <;> intro hc <;> first | (exfalso; omega) | skip)))
      refine K.l_call (Fx.cal rfl) rfl (Alive hb1 hG1) (K.pp [] rfl) rfl ?_
      rintro u h' H' hle2 ⟨rfl, rfl⟩
      simp only [List.nil_append, List.cons_append]
      have hle3 := hle.trans hle2
      (repeat' (first | refine X.rq ?_ | (refine X.rc ?_ ?_ <;> intro hc <;> first | (exfalso; omega) | skip)))
      refine K.AT.sel [0, 0] rfl ?_
      refine K.done (by first | exact Or.inl rfl | exact Or.inr rfl) rfl (by first | exact K.Base.le.refl _ | assumption) (H' := []) rfl ⟨rfl, rfl⟩
end Go.Proofs.YtcpdfajaggbjlaaDoor.Lk
