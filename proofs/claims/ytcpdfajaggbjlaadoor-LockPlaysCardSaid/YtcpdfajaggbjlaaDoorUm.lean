/-
  Whoever asks for whatever, and gives it back: both answer the same. Conditions: each theorem's own.
-/
import Derived.Test.YtcpdfajaggbjlaaDoorUl

namespace Go.K
theorem p_buildZ {P : Program} {n : Nat} {E : Env} {h : Base} {K : List Asrt} {t ty e : TypeId} {ps : String} {af : Array Edge} {dst : Option Nat} {g : Option (Nat × Bool)} {m s : Nat} {zs : List Value} (hu : P.underlying t = some (.array m e)) (hs : szOf P e = some s) (hz : zrOf P t = some (.agg zs.toArray)) :
    Pu P n E h K ⟨dst, .build t #[], ty, ps, af, g⟩ (.agg zs.toArray) :=
  ⟨fun a w fa _ => by
    simp [execOp, Instr.build, run_underlying hu, run_zero hz, run_sizeOf hs, Instr.fill, Value.cells]⟩
end Go.K
namespace Go.Proofs.YtcpdfajaggbjlaaDoor.Lk
open Go Go.K Go.Proofs Go.Proofs.YtcpdfajaggbjlaaDoor
set_option linter.unusedVariables false
set_option linter.unusedSimpArgs false
set_option maxRecDepth 10000

theorem says_two {h : Base} {A B : Asrt} (hs : Says h [A, B]) : Says h [A] ∧ Says h [B] :=
  ⟨⟨hs.1, fun w hw a ha => hs.2 w hw a (by rw [List.mem_singleton.1 ha]; exact List.mem_cons_self)⟩, hs.1, fun w hw a ha => hs.2 w hw a (by rw [List.mem_singleton.1 ha]; exact List.mem_cons_of_mem _ List.mem_cons_self)⟩
theorem SameA (h : Base) (a b : Option Nat) (k c : Nat) (l : List PLock) (hl : l.length ≤ 1000000) :
    TrV Tryd.prog 14 [bufV a l.length k, bufV b l.length c] h [rowsA a k l, rowsA b c l] (.bool true) [rowsA a k l, rowsA b c l] :=
  K.TrV.borrow (A := [rowsA a k l, rowsA b c l]) (R := []) fun h' hle hs => Same h' _ _ l (rows_sl (says_two hs).1) (rows_sl (says_two hs).2) (by omega)
theorem says_w {h : Base} {a : Option Nat} {k : Nat} {w : List PW} (hs : Says h [bufW a k w]) : SL h 2 (bufV a w.length k) (w.map cW) := by
  have hz : (w.map cW).length = w.length := List.length_map ..
  have := K.says_sl (T := 47) (a := a) (cap := k) (es := w.map cW) (two w) (by rw [hz]; exact hs)
  rwa [hz] at this
theorem PairsA (h : Base) (a : Option Nat) (k : Nat) (w : List PW) (v : Value) (hv : SL h 2 v (w.map cW)) (hl : w.length ≤ 999998000001) :
    TrV Tryd.prog 15 [bufV a w.length k, v] h [bufW a k w] (.bool true) [bufW a k w] :=
  K.TrV.borrow (A := [bufW a k w]) (R := []) fun h' hle hs => Pairs h' _ v w (says_w hs) (hv.le hle) (by omega)
theorem act_inv {l : List PLock} {x : PAct} (h : Inv l) (hx : wfA x) : Inv (actQ l x) ∧ (actQ l x).length ≤ l.length + 1 := by
  unfold actQ
  split
  · exact ⟨ask_inv h hx.thing hx.txn, ask_len ..⟩
  split
  · exact ⟨release_inv h x.txn, Nat.le_succ_of_le (rel_len l x.txn).1⟩
  · exact ⟨h, Nat.le_succ _⟩
structure PlS where
  hb : Base
  i : Nat
  a : Option Nat
  k : Nat
  b : Option Nat
  c : Nat
  l : List PLock
structure ZkS where
  j : Nat
  c : List PLock
structure ZwS where
  j : Nat
  c : List PW
structure MkS where
  BT : Nat
set_option maxHeartbeats 8000000 in
theorem LockPlaysW (h : Base) (v : Value) (l0 : List PAct) (made : Bool) (hv : SL h 7 v (l0.map cA)) (hw : ∀ x ∈ l0, wfA x) (hl : l0.length ≤ 9223372036854775807) (hG : Glob h) :
    Tr Tryd.prog 3 [v, .bool made] h [] (fun u h' H' => u = .bool true ∧ H' = []) := by
  have hlen : (l0.map cA).length = l0.length := List.length_map ..
  have hlo := Long h v l0 hv hw hl
  obtain ⟨ao, ca, rfl⟩ := hv.len
  rw [hlen] at hv hlo ⊢
  refine K.enter Tryd.func3 rfl (Nat.le_of_ble_eq_true rfl) (fun F => ?_)
  simp only [List.nil_append, List.cons_append]
  (repeat' (first | refine X.rq ?_ | (refine X.rc ?_ ?_ <;> intro hc <;> first | (exfalso; omega) | skip)))
  refine K.l_call (Fx.cal rfl) rfl hlo (K.pp [] rfl) rfl ?_
  rintro u h' H' - ⟨e, b, rfl, hb, rfl⟩
  obtain rfl := e.symm
  simp only [List.nil_append, List.cons_append]
  cases b with
  | true =>
    (repeat' (first | refine X.rq ?_ | (refine X.rc ?_ ?_ <;> intro hc <;> first | (exfalso; omega) | skip)))
    refine K.l_call (Fx.cal rfl) rfl (Alive h hG) (K.pp [] rfl) rfl ?_
    rintro u h' H' hle ⟨rfl, rfl⟩
    simp only [List.nil_append, List.cons_append]
    (repeat' (first | refine X.rq ?_ | (refine X.rc ?_ ?_ <;> intro hc <;> first | (exfalso; omega) | skip)))
    refine K.done (by first | exact Or.inl rfl | exact Or.inr rfl) rfl (by first | exact K.Base.le.refl _ | assumption) (H' := []) rfl ⟨rfl, rfl⟩
  | false =>
    have hb := hb rfl
    (repeat' (first | refine X.rq ?_ | (refine X.rc ?_ ?_ <;> intro hc <;> first | (exfalso; omega) | skip)))
    refine K.l_call (Fx.cal rfl) rfl (New h) (K.pp [] rfl) rfl ?_
    rintro u h' H' - ⟨e, BT0, rfl, rfl⟩
    obtain rfl := e.symm
    simp only [List.nil_append, List.cons_append]
    (repeat' (first | refine X.rs ?_ | (refine X.rd ?_ ?_ <;> intro hc <;> first | (exfalso; omega) | skip)))
    apply K.c_seq
    refine K.c_join (β := MkS) (fun q => [(0, .slice ao l0.length ca), (5, .pointer (some ⟨q.BT, 0, none⟩))]) (fun _ => h) (fun q => rowsA none 0 [] :: tabB q.BT none 0 [] :: F) (fun _ => True) (fun KJ hJ => ?_) ?_
    · cases made with
      | true =>
        (repeat' (first | refine X.rq ?_ | (refine X.rc ?_ ?_ <;> intro hc <;> first | (exfalso; omega) | skip)))
        exact K.a_join hJ ⟨BT0⟩ trivial (by repeat (first | exact K.Sub.nil _ | refine K.Sub.cons rfl ?_)) rfl rfl
      | false =>
        (repeat' (first | refine X.rq ?_ | (refine X.rc ?_ ?_ <;> intro hc <;> first | (exfalso; omega) | skip)))
        refine K.l_box rfl rfl rfl (fun B => ?_)
        (repeat' (first | refine X.rq ?_ | (refine X.rc ?_ ?_ <;> intro hc <;> first | (exfalso; omega) | skip)))
        refine K.AT.sel [2] rfl ?_
        refine K.AT.perm (K.pp [1] rfl) ?_
        exact K.a_join hJ ⟨B⟩ trivial (by repeat (first | exact K.Sub.nil _ | refine K.Sub.cons rfl ?_)) rfl rfl
    · rintro ⟨BT⟩ -
      dsimp only
      (repeat' (first | refine X.rq ?_ | (refine X.rc ?_ ?_ <;> intro hc <;> first | (exfalso; omega) | skip)))
      refine K.l_box rfl rfl rfl (fun BR => ?_)
      (repeat' (first | refine X.rq ?_ | (refine X.rc ?_ ?_ <;> intro hc <;> first | (exfalso; omega) | skip)))
      refine K.WC.nilBuf 46 7 ?_
      refine K.WC.perm (K.pp [2, 2] rfl) ?_
      refine K.c_loop (σ := PlS) (fun s => [(0, .slice ao l0.length ca), (5, .pointer (some ⟨BT, 0, none⟩)), (6, .pointer (some ⟨BR, 0, none⟩)), (7, .int .i64 s.i)]) (fun s => s.hb) (fun s => rowsA s.a s.k s.l :: tabB BT s.a s.k s.l :: rowsA s.b s.c s.l :: refB BR s.b s.c s.l :: F)
        (fun s => h.le s.hb ∧ s.i ≤ l0.length ∧ Inv s.l ∧ s.l.length ≤ s.i) (fun s => l0.length - s.i) ⟨h, 0, none, 0, none, 0, []⟩ ⟨K.Base.le.refl h, Nat.zero_le _, Inv.nil, Nat.le_refl _⟩ (by repeat (first | exact K.Sub.nil _ | refine K.Sub.cons rfl ?_)) rfl rfl ?_
      rintro ⟨hb1, i, a, k, b, c, l⟩ ⟨hle, hi, hinv, hll⟩ KL hKL
      dsimp only at hle hi hinv hll ⊢
      have hG1 := hG.le hle
      by_cases hil : i < l0.length
      · have hx1 : l0[i]? = some l0[i] := List.getElem?_eq_getElem hil
        have hwx := hw _ (List.getElem_mem hil)
        generalize l0[i] = x at hx1 hwx
        have hc0 : (l0.map cA)[i]? = some (cA x) := by rw [List.getElem?_map, hx1]; rfl
        obtain ⟨bb, oo, rfl, hcx⟩ := hv.at hc0
        have hcx := Cels.le hle hcx
        have hdo := Does hb1 BT BR a k b c l x hwx hinv hG1 (by omega)
        obtain ⟨hinv2, hll2⟩ := act_inv hinv hwx
        generalize actQ l x = l2 at hdo hinv2 hll2
        have hl2 : l2.length ≤ 121 := by omega
        have hl3 : l2.length ≤ i + 1 := by omega
        (repeat' (first | refine X.rq ?_ | (refine X.rc ?_ ?_ <;> intro hc <;> first | (exfalso; omega) | skip)))
        refine K.s_pure (K.p_loadM (Fx.agg rfl) rfl (Cels.up hcx) (Fx.sz rfl) rfl) rfl ?_
        refine K.l_call (Fx.cal rfl) rfl hdo (K.pp [0, 0, 0, 0] rfl) rfl ?_
        rintro u h2 H' le2 ⟨rfl, a2, k2, b2, c2, rfl⟩
        simp only [List.nil_append, List.cons_append]
        clear hdo hinv hll
        simp only [List.set_cons_zero, List.set_cons_succ, List.eraseIdx_cons_zero, List.eraseIdx_cons_succ, List.cons_append, List.nil_append]
        have hle2 := hle.trans le2
        have hG2 := hG.le hle2
        have hall := AllA h2 BT a2 k2 l2 (by omega)
        have hwai := Waits h2 BT a2 k2 l2 hinv2.wf hG2 (by omega)
        (repeat' (first | refine X.rq ?_ | (refine X.rc ?_ ?_ <;> intro hc <;> first | (exfalso; omega) | skip)))
        refine K.l_call (Fx.cal rfl) rfl hall (K.pp [0, 0] rfl) rfl ?_
        rintro u h' H' - ⟨e, a3, k3, rfl, rfl⟩
        obtain rfl := e.symm
        simp only [List.nil_append, List.cons_append]
        simp only [List.set_cons_zero, List.set_cons_succ, List.eraseIdx_cons_zero, List.eraseIdx_cons_succ, List.cons_append, List.nil_append]
        (repeat' (first | refine X.rq ?_ | (refine X.rc ?_ ?_ <;> intro hc <;> first | (exfalso; omega) | skip)))
        refine K.l_call (Fx.cal rfl) rfl hwai (K.pp [0, 0] rfl) rfl ?_
        rintro u h' H' - ⟨e, a4, k4, rfl, rfl⟩
        obtain rfl := e.symm
        simp only [List.nil_append, List.cons_append]
        clear hall hwai
        simp only [List.set_cons_zero, List.set_cons_succ, List.eraseIdx_cons_zero, List.eraseIdx_cons_succ, List.cons_append, List.nil_append]
        have hsm := SameA h2 a3 b2 k3 c2 l2 (by omega)
        have hrw := RWaits h2 BR b2 c2 l2 hinv2.wf hG2 (by omega)
        have hwl := waits_len (l := l2) (by omega)
        (repeat' (first | refine X.rq ?_ | (refine X.rc ?_ ?_ <;> intro hc <;> first | (exfalso; omega) | skip)))
        refine K.l_callV (Fx.cal rfl) rfl hsm (K.pp [3, 3] rfl) rfl rfl ?_
        simp only [List.nil_append, List.cons_append]
        simp only [List.set_cons_zero, List.set_cons_succ, List.eraseIdx_cons_zero, List.eraseIdx_cons_succ, List.cons_append, List.nil_append]
        (repeat' (first | refine X.rq ?_ | (refine X.rc ?_ ?_ <;> intro hc <;> first | (exfalso; omega) | skip)))
        refine K.l_call (Fx.cal rfl) rfl hrw (K.pp [1, 4] rfl) rfl ?_
        rintro u h3 H' le3 ⟨hws, rfl⟩
        simp only [List.nil_append, List.cons_append]
        simp only [List.set_cons_zero, List.set_cons_succ, List.eraseIdx_cons_zero, List.eraseIdx_cons_succ, List.cons_append, List.nil_append]
        have hle3 := hle2.trans le3
        have hpa := PairsA h3 a4 k4 (waitsQ l2) _ hws hwl
        have hvi := Victim h3 BT a2 k2 l2 hinv2.wf (hG.le hle3) (by omega)
        clear hsm hrw
        (repeat' (first | refine X.rq ?_ | (refine X.rc ?_ ?_ <;> intro hc <;> first | (exfalso; omega) | skip)))
        refine K.l_callV (Fx.cal rfl) rfl hpa (K.pp [5] rfl) rfl rfl ?_
        simp only [List.nil_append, List.cons_append]
        simp only [List.set_cons_zero, List.set_cons_succ, List.eraseIdx_cons_zero, List.eraseIdx_cons_succ, List.cons_append, List.nil_append]
        (repeat' (first | refine X.rq ?_ | (refine X.rc ?_ ?_ <;> intro hc <;> first | (exfalso; omega) | skip)))
        refine K.l_call (Fx.cal rfl) rfl hvi (K.pp [4, 4] rfl) rfl ?_
        rintro u h4 H' le4 ⟨vv, rfl, hvv, hvb, rfl⟩
        simp only [List.nil_append, List.cons_append]
        simp only [List.set_cons_zero, List.set_cons_succ, List.eraseIdx_cons_zero, List.eraseIdx_cons_succ, List.cons_append, List.nil_append]
        have hle4 := hle3.trans le4
        have hrv := RVictim h4 BR b2 c2 l2 hinv2.wf (hG.le hle4) (by omega)
        clear hpa hvi
        (repeat' (first | refine X.rq ?_ | (refine X.rc ?_ ?_ <;> intro hc <;> first | (exfalso; omega) | skip)))
        refine K.l_call (Fx.cal rfl) rfl hrv (K.pp [3, 3] rfl) rfl ?_
        rintro u h5 H' le5 ⟨vr, rfl, hvr, hvc, rfl⟩
        simp only [List.nil_append, List.cons_append]
        simp only [List.set_cons_zero, List.set_cons_succ, List.eraseIdx_cons_zero, List.eraseIdx_cons_succ, List.cons_append, List.nil_append]
        have hle5 := hle4.trans le5
        obtain rfl := hvv.uniq hvr
        clear hrv hcx
        generalize waitsQ l2 = w at hwl ⊢
        (repeat' (first | refine X.rq ?_ | (refine X.rc ?_ ?_ <;> intro hc <;> first | (exfalso; omega) | skip)))
        all_goals first | (exfalso; omega) | skip
        refine K.WC.perm (K.pp [5, 4, 2, 2] rfl) ?_
        simp only [List.set_cons_zero, List.set_cons_succ, List.eraseIdx_cons_zero, List.eraseIdx_cons_succ, List.cons_append, List.nil_append]
        refine K.c_loop (σ := ZkS) (fun s => [(0, .slice (some ⟨bb, oo, none⟩) l0.length ca), (5, .pointer (some ⟨BT, 0, none⟩)), (6, .pointer (some ⟨BR, 0, none⟩)), (7, .int .i64 i), (8, bufV a3 l2.length k3), (9, bufV a4 w.length k4), (10, .int .i64 s.j)]) (fun _ => h5)
          (fun s => bufA 46 7 a3 l2.length k3 (s.c.map cK).flatten :: bufW a4 k4 w :: rowsA a2 k2 l2 :: tabB BT a2 k2 l2 :: rowsA b2 c2 l2 :: refB BR b2 c2 l2 :: F) (fun s => s.j ≤ l2.length ∧ s.c.length = l2.length) (fun s => l2.length - s.j) ⟨0, l2⟩ ⟨Nat.zero_le _, rfl⟩ (by repeat (first | exact K.Sub.nil _ | refine K.Sub.cons rfl ?_)) rfl rfl ?_
        rintro ⟨j, cl⟩ ⟨hj, hcl⟩ KM hKM
        dsimp only at hj hcl ⊢
        by_cases hjl : j < l2.length
        · have hz1 : cl[j]? = some (cl[j]'(by omega)) := List.getElem?_eq_getElem (by omega)
          generalize cl[j]'(by omega) = z at hz1
          refine K.WC.someBuf 0 rfl (by omega) (fun b9 hb' => ?_)
          subst hb'
          (repeat' (first | refine X.rq ?_ | (refine X.rc ?_ ?_ <;> intro hc <;> first | (exfalso; omega) | skip)))
          refine K.l_storePart (i := j) (c1 := []) (c2 := cK z) (c3 := []) (us := cK zeroK) 0 rfl (Fx.sz rfl) (by show some (Value.pointer (some ⟨b9, 0 + ((j : Nat) : Int).toNat * 7, none⟩)) = _; rw [Nat.zero_add]; rfl) rfl rfl (seven cl) (by rw [List.append_nil, List.nil_append, List.getElem?_map, hz1]; rfl) rfl ?_
          rw [List.append_nil, List.nil_append, ← List.map_set]
          simp only [List.set_cons_zero, List.set_cons_succ, List.eraseIdx_cons_zero, List.eraseIdx_cons_succ, List.cons_append, List.nil_append]
          (repeat' (first | refine X.rq ?_ | (refine X.rc ?_ ?_ <;> intro hc <;> first | (exfalso; omega) | skip)))
          refine K.a_round hKM ⟨j + 1, cl.set j zeroK⟩ ⟨by dsimp only; omega, by dsimp only; rw [List.length_set]; exact hcl⟩ (by repeat (first | exact K.Sub.nil _ | refine K.Sub.cons rfl ?_)) rfl rfl (by dsimp only; omega)
        · obtain rfl : j = l2.length := by omega
          (repeat' (first | refine X.rq ?_ | (refine X.rc ?_ ?_ <;> intro hc <;> first | (exfalso; omega) | skip)))
          refine K.WC.sel [0] rfl ?_
          refine K.c_loop (σ := ZwS) (fun s => [(0, .slice (some ⟨bb, oo, none⟩) l0.length ca), (5, .pointer (some ⟨BT, 0, none⟩)), (6, .pointer (some ⟨BR, 0, none⟩)), (7, .int .i64 i), (9, bufV a4 w.length k4), (11, .int .i64 s.j)]) (fun _ => h5)
            (fun s => bufA 47 2 a4 w.length k4 (s.c.map cW).flatten :: rowsA a2 k2 l2 :: tabB BT a2 k2 l2 :: rowsA b2 c2 l2 :: refB BR b2 c2 l2 :: F) (fun s => s.j ≤ w.length ∧ s.c.length = w.length) (fun s => w.length - s.j) ⟨0, w⟩ ⟨Nat.zero_le _, rfl⟩ (by repeat (first | exact K.Sub.nil _ | refine K.Sub.cons rfl ?_)) rfl rfl ?_
          rintro ⟨j, cl⟩ ⟨hj, hcl⟩ KN hKN
          dsimp only at hj hcl ⊢
          by_cases hjl : j < w.length
          · have hz1 : cl[j]? = some (cl[j]'(by omega)) := List.getElem?_eq_getElem (by omega)
            generalize cl[j]'(by omega) = z at hz1
            refine K.WC.someBuf 0 rfl (by omega) (fun b9 hb' => ?_)
            subst hb'
            (repeat' (first | refine X.rq ?_ | (refine X.rc ?_ ?_ <;> intro hc <;> first | (exfalso; omega) | skip)))
            refine K.s_pure (K.p_buildZ (Fx.und rfl) (Fx.sz rfl) (Fx.zr rfl)) rfl ?_
            (repeat' (first | refine X.rq ?_ | (refine X.rc ?_ ?_ <;> intro hc <;> first | (exfalso; omega) | skip)))
            refine K.l_storePart (i := j) (c1 := []) (c2 := cW z) (c3 := []) (us := cW (0, 0)) 0 rfl (Fx.sz rfl) (by show some (Value.pointer (some ⟨b9, 0 + ((j : Nat) : Int).toNat * 2, none⟩)) = _; rw [Nat.zero_add]; rfl) rfl rfl (two cl) (by rw [List.append_nil, List.nil_append, List.getElem?_map, hz1]; rfl) rfl ?_
            rw [List.append_nil, List.nil_append, ← List.map_set]
            simp only [List.set_cons_zero, List.set_cons_succ, List.eraseIdx_cons_zero, List.eraseIdx_cons_succ, List.cons_append, List.nil_append]
            (repeat' (first | refine X.rq ?_ | (refine X.rc ?_ ?_ <;> intro hc <;> first | (exfalso; omega) | skip)))
            refine K.a_round hKN ⟨j + 1, cl.set j (0, 0)⟩ ⟨by dsimp only; omega, by dsimp only; rw [List.length_set]; exact hcl⟩ (by repeat (first | exact K.Sub.nil _ | refine K.Sub.cons rfl ?_)) rfl rfl (by dsimp only; omega)
          · obtain rfl : j = w.length := by omega
            (repeat' (first | refine X.rq ?_ | (refine X.rc ?_ ?_ <;> intro hc <;> first | (exfalso; omega) | skip)))
            refine K.AT.sel [0] rfl ?_
            refine K.a_round hKL ⟨h5, i + 1, a2, k2, b2, c2, l2⟩ ⟨hle5, by dsimp only; omega, hinv2, hl3⟩ (by repeat (first | exact K.Sub.nil _ | refine K.Sub.cons rfl ?_)) rfl rfl (by dsimp only; omega)
      · obtain rfl : i = l0.length := by omega
        have hall := AllA hb1 BT a k l (by omega)
        have hsm := fun a3 k3 => SameA hb1 a3 b k3 c l (by omega)
        (repeat' (first | refine X.rq ?_ | (refine X.rc ?_ ?_ <;> intro hc <;> first | (exfalso; omega) | skip)))
        refine X.draw ([refB BR b c l]) [] (.pu 0 (.pu 2 (.pu 3 (.pu 4 (.st 5 (.on 1 (.on 6 (.pu 7 (.on 8 (.pu 9 (.pu 10 .nil))))))))))) ?_ (hQ := by repeat (first | with_reducible refine K.NoPanic.then ?_ | with_reducible refine K.NoPanic.inBlock ?_ | with_reducible exact K.post_noPanic _ _ | exact K.post_noPanic _ _))
        refine K.d_pu rfl (fun _ _ => X.mv) rfl ?_
        refine K.d_pu rfl (fun _ _ => X.mv) rfl ?_
        refine K.d_pu rfl (fun _ _ => X.nc) rfl ?_
        refine K.d_pu rfl (fun _ _ => X.fa) rfl ?_
        refine K.d_st rfl (K.p_load (Fx.agg rfl) rfl (K.cel_own 0 rfl rfl)) rfl ?_
        refine K.d_on rfl (fun KK hKK => ?_)
        refine K.l_call (Fx.cal rfl) rfl hall (K.pp [0, 0] rfl) rfl ?_
        rintro u h' H' - ⟨e, a3, k3, rfl, rfl⟩
        obtain rfl := e.symm
        simp only [List.nil_append, List.cons_append]
        simp only [List.set_cons_zero, List.set_cons_succ, List.eraseIdx_cons_zero, List.eraseIdx_cons_succ, List.cons_append, List.nil_append]
        refine K.l_nil ?_
        refine X.onE hKK ?_
        refine K.d_on rfl (fun KK hKK => ?_)
        refine K.l_callV (Fx.cal rfl) rfl (hsm a3 k3) (K.pp [2, 2] rfl) rfl rfl ?_
        simp only [List.nil_append, List.cons_append]
        simp only [List.set_cons_zero, List.set_cons_succ, List.eraseIdx_cons_zero, List.eraseIdx_cons_succ, List.cons_append, List.nil_append]
        refine K.l_nil ?_
        refine X.onE hKK ?_
        refine K.d_pu rfl (fun _ _ => X.mv) rfl ?_
        refine K.d_on rfl (fun KK hKK => ?_)
        refine K.s_take rfl rfl ?_
        refine K.l_call (Fx.cal rfl) rfl (Alive _ hG1) (K.pp [] rfl) rfl ?_
        rintro u h' H' hle9 ⟨rfl, rfl⟩
        simp only [List.nil_append, List.cons_append]
        have hle10 := hle.trans hle9
        refine K.l_nil ?_
        refine X.onE hKK ?_
        refine K.d_pu rfl (fun _ _ => X.pk) rfl ?_
        refine K.d_pu rfl (fun _ _ => X.sg) rfl ?_
        refine K.d_nil ?_
        (repeat' (first | refine X.rq ?_ | (refine X.rc ?_ ?_ <;> intro hc <;> first | (exfalso; omega) | skip)))
        refine K.AT.sel [0, 0, 0, 0, 0] rfl ?_
        refine K.done (by first | exact Or.inl rfl | exact Or.inr rfl) rfl (by first | exact K.Base.le.refl _ | assumption) (H' := []) rfl ⟨rfl, rfl⟩
end Go.Proofs.YtcpdfajaggbjlaaDoor.Lk
