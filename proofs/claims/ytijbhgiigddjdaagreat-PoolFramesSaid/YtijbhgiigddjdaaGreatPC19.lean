/-
 The log's sectors read. Conditions: each theorem's own.
-/
import Derived.Test.YtijbhgiigddjdaaGreatPC18
set_option linter.unusedVariables false
set_option linter.unusedSimpArgs false
set_option maxRecDepth 10000
set_option maxHeartbeats 16000000
namespace Go.Proofs.YtijbhgiigddjdaaGreat.Wl
open Go.K Cc

def usedQ (b : Sec) : Nat := leNum (b.take 2)
def raQ : Nat → Nat → List Sec → List UInt8 → Bool → Dk → Except Int (List Sec × List UInt8) × Dk
 | 0, _, l, st, _, D => (.ok (l, st), D)
 | k + 1, i, l, st, ended, D => match readQ D (1 + i : Nat) with
  | (.error e, D') => (.error e, D')
  | (.ok b, D') => if 510 < usedQ b then (.error 5, D') else raQ k (i + 1) (l ++ [b]) (if ended then st else st ++ (b.drop 2).take (usedQ b)) (ended || decide (usedQ b < 510)) D'
def RaR (r : Except Int (List Sec × List UInt8)) (v : Value) (H : List Asrt) : Prop := match r with
 | .ok (l, st) => ∃ a k b c, v = .tuple #[bufV a l.length k, bufV b st.length c, .int .i64 0] ∧ H = [bufA 99 512 a l.length k (l.map seB).flatten, bufA 5 1 b st.length c (st.map u8)]
 | .error e => v = .tuple #[.slice none 0 0, .slice none 0 0, .int .i64 e] ∧ H = []
theorem two_bytes {b : Sec} (h : 2 ≤ b.length) : ∃ x y r, b = x :: y :: r ∧ usedQ b = x.toNat + 256 * y.toNat := by
 match b, h with
 | x :: y :: r, _ => exact ⟨x, y, r, rfl, by unfold usedQ; simp [leNum]⟩
theorem i64_or_nat (a b : Nat) (ha : a < 4611686018427387904) (hb : b < 4611686018427387904) : bits .or .i64 (a : Int) (b : Int) = ((a ||| b : Nat) : Int) := by
 have hx : a ||| b < 2 ^ 62 := Nat.or_lt_two_pow (by omega) (by omega)
 show IntKind.i64.wrap ((BitVec.ofInt 64 (a : Int) ||| BitVec.ofInt 64 (b : Int)).toNat : Int) = _
 rw [BitVec.toNat_or, ofInt_u64 a (by omega), ofInt_u64 b (by omega)]
 exact wr_i64 (by omega) (by omega)
theorem or_used (x y : UInt8) : bits .or .i64 (IntKind.i64.wrap (x.toNat : Int)) (IntKind.i64.wrap (IntKind.i64.wrap (y.toNat : Int) * 2 ^ (min (Int.toNat 8) IntKind.i64.bits))) = ((x.toNat + 256 * y.toNat : Nat) : Int) := by
 have hx := x.toNat_lt
 have hy := y.toNat_lt
 have e1 : IntKind.i64.wrap (x.toNat : Int) = (x.toNat : Int) := wr_i64 (by omega) (by omega)
 have e2 : IntKind.i64.wrap (y.toNat : Int) = (y.toNat : Int) := wr_i64 (by omega) (by omega)
 have e3 : ((y.toNat : Int) * 2 ^ (min (Int.toNat 8) IntKind.i64.bits)) = ((y.toNat * 256 : Nat) : Int) := by
  rw [show (min (Int.toNat 8) IntKind.i64.bits) = 8 from rfl]; omega
 rw [e1, e2, e3, wr_i64 (by omega) (by omega), i64_or_nat _ _ (by omega) (by omega)]
 congr 1
 rw [Nat.or_comm, show y.toNat * 256 = y.toNat <<< 8 by rw [Nat.shiftLeft_eq], ← Nat.shiftLeft_add_eq_or_of_lt (i := 8) (by omega), Nat.shiftLeft_eq]
 omega
structure RaS where
 j : Nat
 hb : Base
 M : DM
 D : Dk
 l : List Sec
 st : List UInt8
 en : Bool
 a : Option Nat
 k : Nat
 b : Option Nat
 c : Nat
theorem ReadAll (h : Base) (d : Nat) (M : DM) (D : Dk) (n : Nat) (hk : DkOk D) (hn : n ≤ 8192) :
  Tr Tryz.prog 57 [dv d, .int .i64 n] h (dkA d M D) (fun u h' H' => ∃ M' H1, H' = H1 ++ dkA d M' (raQ n 0 [] [] false D).2 ∧ RaR (raQ n 0 [] [] false D).1 u H1) := by
 refine K.en Tryz.func57 fun F => ?_
 refine K.WC.nilBuf 5 1 ?_
 refine K.WC.nilBuf 99 512 ?_
 (repeat' first | refine X.rq ?_ | refine X.rc ?_ ?_ <;> intro hc <;> try omega)
 refine K.c_loop (σ := RaS) (fun q => [(0, dv d), (7, bufV q.a q.l.length q.k), (8, bufV q.b q.st.length q.c), (9, .bool q.en), (14, .int .i64 n), (15, .int .i64 q.j)]) (fun q => q.hb)
  (fun q => bufA 99 512 q.a q.l.length q.k (q.l.map seB).flatten :: bufA 5 1 q.b q.st.length q.c (q.st.map u8) :: (dkA d q.M q.D ++ F))
  (fun q => q.j ≤ n ∧ h.le q.hb ∧ DkOk q.D ∧ q.l.length = q.j ∧ q.st.length ≤ 510 * q.j ∧ raQ n 0 [] [] false D = raQ (n - q.j) q.j q.l q.st q.en q.D) (fun q => n - q.j) ⟨0, h, M, D, [], [], false, none, 0, none, 0⟩ ⟨Nat.zero_le _, K.Base.le.refl _, hk, rfl, Nat.zero_le _, rfl⟩ (by repeat (first | exact K.Sub.nil _ | refine K.Sub.cons rfl ?_)) rfl rfl ?_
 rintro ⟨j, hb, M1, D1, l, st, en, a, k, b, c⟩ ⟨hj, hle, hk1, hl, hst, hq⟩ KL hKL
 dsimp only at hj hle hk1 hl hst hq ⊢
 by_cases hjl : j < n
 ·obtain ⟨r, hre⟩ : ∃ r, n - j = r + 1 := ⟨n - j - 1, by omega⟩
  rw [hre] at hq
  rw [raQ] at hq
  obtain ⟨a1, a2, a3⟩ := read_ok hk1 (1 + j : Nat)
  have hlen := fun x => read_len hk1 (at_ := (1 + j : Nat)) (b := x)
  (repeat' first | refine X.rq ?_ | refine X.rc ?_ ?_ <;> intro hc <;> try omega)
  rw [show (1 : Int) + (j : Int) = ((1 + j : Nat) : Int) by omega]
  refine K.l_call (Fx.cal rfl) rfl (Read hb d M1 D1 ((1 + j : Nat) : Int) hk1 (by omega) (by omega)) (K.pp [2, 2, 2] rfl) rfl ?_
  rintro u h1 H' le1 ⟨⟨c1, rfl⟩, hrd⟩
  have hle1 := hle.trans le1
  cases hrq : readQ D1 ((1 + j : Nat) : Int) with
  | mk r1 D2 =>
   rw [hrq] at hq a1 hlen hrd
   dsimp only at hq a1 hlen hrd ⊢
   cases r1 with
   | error e =>
    dsimp only at hq
    obtain rfl : u = _ := hrd
    have hne : e ≠ 0 := by
     unfold readQ at hrq
     split at hrq
     ·cases hrq; decide
     ·split at hrq
      ·cases hrq
      ·cases hrq; decide
    (repeat' first | refine X.rq ?_ | refine X.rc ?_ ?_ <;> intro hc <;> try omega)
    all_goals try (exfalso; omega)
    refine K.AT.perm (K.pp [3, 3] rfl) ?_
    exact K.dc (vs := [.slice none 0 0, .slice none 0 0, .int .i64 e]) (.tmp rfl (.tmp rfl (.tmp rfl .nil))) hle1 (D := [_, _]) (H' := [_, _, _]) rfl ⟨_, [], by rw [hq]; rfl, by rw [hq]; exact ⟨rfl, rfl⟩⟩
   | ok x =>
    dsimp only at hq
    obtain ⟨ao, ca, rfl, hbx⟩ := hrd
    have hx5 := hlen x rfl
    obtain ⟨_, bb, oo, rfl, hcel⟩ := BV.cels hbx (by omega)
    obtain ⟨y0, y1, yr, hxe, hus⟩ := two_bytes (show 2 ≤ x.length by omega)
    have hx6 : (List.map u8 x).length = 512 := by rw [List.length_map, hx5]
    have hc0 : (List.map u8 x)[0]? = some (u8 y0) := by rw [hxe]; rfl
    have hc1 : (List.map u8 x)[1]? = some (u8 y1) := by rw [hxe]; rfl
    (repeat' first | refine X.rq ?_ | refine X.rc ?_ ?_ <;> intro hc <;> try omega)
    all_goals try (exfalso; omega)
    refine X.drawN ([]) [] (.pu 0 (.pu 1 (.pu 4 (.pu 5 (.st 2 (.pu 3 (.st 6 (.pu 7 (.pu 8 (.pu 9 (.pu 10 .nil))))))))))) ?_
    refine X.u_mv ?_
    refine X.u_ia ?_
    refine X.u_mv ?_
    refine X.u_ia ?_
    refine K.d_st rfl (K.p_load (v := u8 y0) (Fx.agg rfl) rfl (Cels.get (Cels.up hcel) 0 (u8 y0) hc0)) rfl ?_
    refine X.u_cv ?_
    refine K.d_st rfl (K.p_load (v := u8 y1) (Fx.agg rfl) rfl (Cels.get (Cels.up hcel) 1 (u8 y1) hc1)) rfl ?_
    refine X.u_cv ?_
    refine X.u_bshl ?_
    refine X.u_bor ?_
    refine X.u_sg ?_
    refine K.d_nil ?_
    rw [or_used, ← hus]
    by_cases hu : 510 < usedQ x
    ·rw [if_pos hu] at hq
     (repeat' first | refine X.rq ?_ | refine X.rc ?_ ?_ <;> intro hc <;> try omega)
     all_goals try (exfalso; omega)
     refine K.AT.perm (K.pp [3, 3] rfl) ?_
     exact K.dc (vs := [.slice none 0 0, .slice none 0 0, .int .i64 5]) (.tmp rfl (.tmp rfl (.tmp rfl .nil))) hle1 (D := [_, _]) (H' := [_, _, _]) rfl ⟨_, [], by rw [hq]; rfl, by rw [hq]; exact ⟨rfl, rfl⟩⟩
    ·rw [if_neg hu] at hq
     have hxs : (seB x).length = 512 := hx6
     have hfl : (l ++ [x]).length = l.length + 1 := by simp
     have hfm : ((l ++ [x]).map seB).flatten = (l.map seB).flatten ++ seB x := by simp
     (repeat' first | refine X.rq ?_ | refine X.rc ?_ ?_ <;> intro hc <;> try omega)
     all_goals try (exfalso; omega)
     refine K.s_pure (K.p_arrAt (m := 512) (Fx.und rfl) rfl (Nat.le_refl _)) rfl ?_
     refine K.s_pure (K.p_loadM (vs := seB x) (Fx.agg rfl) rfl (Cels.up hcel) (Fx.sz rfl) hxs) rfl ?_
     refine K.l_buildSlice (cs := seB x) (Fx.und rfl) (Fx.sz rfl) rfl zrS rfl rfl (by simp [seqOk, Value.cells, hxs]) (by simp [cellsL, Value.cells]) rfl (fun B9 => ?_)
     refine K.WL.perm (K.pp [4] rfl) ?_
     refine K.l_append_at 0 rfl (Fx.und rfl) (Fx.und rfl) rfl (Fx.sz rfl) zrS rfl (Fx.byt rfl) rfl rfl (K.src_cells (m := 1) (K.cels_own (pre := []) (cs := seB x) (post := []) 0 (by rw [List.nil_append, List.append_nil]; rfl) rfl) (by rw [hxs]) (List.all_eq_true.1 (seB_ones x))) (by omega) (by omega) rfl (fun a' k' => ?_)
     rw [← hfl]
     cases en with
     | true =>
      (repeat' first | refine X.rq ?_ | refine X.rc ?_ ?_ <;> intro hc <;> try omega)
      rw [← hfm]
      refine K.AT.sel [1] rfl ?_
      refine K.AT.perm (K.pp [0, 3] rfl) ?_
      refine K.a_round hKL ⟨j + 1, h1, _, D2, l ++ [x], st, true, a', k', b, c⟩ ⟨by dsimp only; omega, hle1, a1, by dsimp only; omega, by dsimp only; omega, by dsimp only; rw [hq, show n - (j + 1) = r by omega]; rfl⟩ (by repeat (first | exact K.Sub.nil _ | refine K.Sub.cons rfl ?_)) rfl rfl (by dsimp only; omega)
     | false =>
      (repeat' first | refine X.rq ?_ | refine X.rc ?_ ?_ <;> intro hc <;> try omega)
      refine K.s_pureE (K.p_sliceB (k1 := .i64) (k2 := .i64) (p := 2) (q := 2 + usedQ x) hbx (Fx.und rfl) (Fx.sz rfl) rfl ⟨_, rfl, by omega⟩ ⟨_, rfl, by omega⟩ (by omega) (by omega)) rfl ?_
      intro v2 hv2
      rw [show (x.take (2 + usedQ x)).drop 2 = (x.drop 2).take (usedQ x) by rw [List.drop_take, Nat.add_sub_cancel_left]] at hv2
      have hsl : ((x.drop 2).take (usedQ x)).length = usedQ x := by rw [List.length_take, List.length_drop]; omega
      obtain ⟨ao2, ca2, rfl⟩ := hv2.len
      refine K.l_append_at 5 rfl (Fx.und rfl) (Fx.und rfl) rfl (Fx.sz rfl) (Fx.zr rfl) rfl (Fx.byt rfl) rfl rfl hv2.src (by omega) (by omega) rfl (fun b' c' => ?_)
      rw [← List.length_append, ← List.map_append]
      (repeat' first | refine X.rq ?_ | refine X.rc ?_ ?_ <;> intro hc <;> try omega)
      rw [← hfm]
      refine K.AT.sel [1] rfl ?_
      refine K.AT.perm (K.pp [0, 3] rfl) ?_
      refine K.a_round hKL ⟨j + 1, h1, _, D2, l ++ [x], st ++ (x.drop 2).take (usedQ x), decide (usedQ x < 510), a', k', b', c'⟩ ⟨by dsimp only; omega, hle1, a1, by dsimp only; omega, by dsimp only; rw [List.length_append]; omega, by dsimp only; rw [hq, show n - (j + 1) = r by omega]; rfl⟩ ?_ rfl rfl (by dsimp only; omega)
      dsimp only
      rw [show decide (usedQ x < 510) = decide ((usedQ x : Int) < 510) from decide_eq_decide.2 (by omega)]
      exact (by repeat (first | exact K.Sub.nil _ | refine K.Sub.cons rfl ?_))
 ·obtain rfl : j = n := by omega
  rw [Nat.sub_self] at hq
  rw [raQ] at hq
  (repeat' first | refine X.rq ?_ | refine X.rc ?_ ?_ <;> intro hc <;> try omega)
  exact K.dn (vs := [bufV a l.length k, bufV b st.length c, .int .i64 0]) rfl hle (H' := [_, _] ++ dkA d M1 D1) rfl ⟨M1, [_, _], by rw [hq], by rw [hq]; exact ⟨a, k, b, c, rfl, rfl⟩⟩
end Go.Proofs.YtijbhgiigddjdaaGreat.Wl
