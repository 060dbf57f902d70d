/-
 A log's life: what is known of it; the log opened. Conditions: each theorem's own.
-/
import Derived.Test.YtmcdaegaopfihaaGreatY44
import Derived.Test.YtmcdaegaopfihaaGreatY45
namespace Go.K
open Go
set_option linter.unusedVariables false
set_option linter.unusedSimpArgs false
section
variable {P : Program} {n : NN} {Q : Exit → Act → World → Prop} {E : Env} {h : Base} {R : List Asrt} {ops : Array Oper}
theorem WL.shrink {l : List Oper} {T s j m cap : Nat} {a : Option Nat} {cs : List Value} (hj : j ≤ m) (hk : WL P n ops Q l E h (bufA T s a j cap (cs.take (j * s)) :: R)) : WL P n ops Q l E h (bufA T s a m cap cs :: R) :=
 o_buf (fun ha hm hc hcs => by
  subst ha hm hc hcs
  obtain rfl : j = 0 := by omega
  rw [List.take_nil] at hk
  exact WL.nilBuf T s hk) (fun b sp fz ha g2 g3 g4 g5 g6 => by
  subst ha
  have hl : j * s ≤ cs.length := by rw [g2]; exact Nat.mul_le_mul_right s hj
  rw [show cs ++ sp = cs.take (j * s) ++ (cs.drop (j * s) ++ sp) by rw [← List.append_assoc, List.take_append_drop]] at g3 ⊢
  exact WL.shut (by rw [List.length_take, Nat.min_eq_left hl]) g3 (Nat.le_trans hj g4) g5 g6 hk)
theorem WL.roomBufA {H : List Asrt} {L : List Oper} {T s m cap : Nat} {a : Option Nat} {cs : List Value} (j : Nat) (hj : H[j]? = some (bufA T s a m cap cs)) (hk : m ≤ cap → WL P n ops Q L E h H) : WL P n ops Q L E h H :=
 ⟨fun ac w fa ok => (hk (by
  have := ok.sat.own _ (List.mem_of_getElem? hj)
  cases a with
  | none => obtain ⟨e, _, _⟩ := this; omega
  | some b => obtain ⟨_, _, _, _, _, g, _⟩ := this; exact g)).run _ w fa ok⟩
end
end Go.K
namespace Go.Proofs.YtmcdaegaopfihaaGreat.Wl
open Go Go.K Go.Proofs Go.Proofs.YtmcdaegaopfihaaGreat Go.Proofs.YtmcdaegaopfihaaGreat.Pg Go.Proofs.YtmcdaegaopfihaaGreat.Cc Go.Proofs.YtmcdaegaopfihaaGreat.Rc
set_option linter.unusedVariables false
set_option linter.unusedSimpArgs false
set_option maxRecDepth 10000

structure FM where
 a : Option Nat
 k : Nat
 es : List (List Value)
 thn : Nat
 nxt : Nat
def lfV (d : Nat) (lv v : Value) (sure base kept : Nat) (brk : Bool) (thn nxt : Nat) : List Value := [dv d, lv, v, .int .i64 sure, n64 base, .int .u32 kept, .bool brk, n64 thn, .int .u32 nxt]
def lfA (x d : Nat) (lv : Value) (M : FM) (cnt sure base kept : Nat) (brk : Bool) : List Asrt := [blk x 64 (lfV d lv (bufV M.a cnt M.k) sure base kept brk M.thn M.nxt), bufA 45 15 M.a cnt M.k M.es.flatten]
theorem rows_take {h : Base} {es : List (List Value)} {rs : List Recd} (hr : RowsG (RecC h) es rs) (j : Nat) : RowsG (RecC h) (es.take j) (rs.take j) := by
 refine ⟨by rw [List.length_take, List.length_take, hr.1], fun i c x hc hx => ?_⟩
 have hi : i < j := by
  have := (List.getElem?_eq_some_iff.1 hc).1
  rw [List.length_take] at this; omega
 rw [List.getElem?_take_of_lt hi] at hc hx
 exact hr.2 i c x hc hx
theorem flat_take15 : ∀ (es : List (List Value)) (j : Nat), (∀ e ∈ es, e.length = 15) → es.flatten.take (j * 15) = (es.take j).flatten
 | [], j, _ => by simp
 | e :: r, 0, _ => by simp
 | e :: r, j + 1, h => by
  have h1 := h e (List.mem_cons_self ..)
  rw [List.flatten_cons, List.take_succ_cons, List.flatten_cons, List.take_append, List.take_of_length_le (by omega), h1, show (j + 1) * 15 - 15 = j * 15 by omega, flat_take15 r j fun x hx => h x (List.mem_cons_of_mem _ hx)]
theorem rows_15 {h : Base} {es : List (List Value)} {rs : List Recd} (hr : RowsG (RecC h) es rs) : ∀ e ∈ es, e.length = 15 := fun e he => by
 obtain ⟨j, hj⟩ := List.mem_iff_getElem?.1 he
 have hlt := (List.getElem?_eq_some_iff.1 hj).1
 exact rec_len (hr.2 j e _ hj (List.getElem?_eq_getElem (by rw [← hr.1]; exact hlt)))
theorem rows_le2 {h h' : Base} {es : List (List Value)} {rs : List Recd} (hr : RowsG (RecC h) es rs) (hle : h.le h') : RowsG (RecC h') es rs := ⟨hr.1, fun j c x hc hx => (hr.2 j c x hc hx).le hle⟩
structure OpenP (h : Base) (M : FM) (D : Dk) (n base kept : Nat) (rs : List Recd) (m : Nat) (brk : Option Nat) : Prop where
 lost : Lost D n base kept rs m brk
 cache : D.cache = []
 on : NoTrip D
 es : RowsG (RecC h) M.es (foundQ base rs)
 thn : M.thn < 18446744073709551616
 nxt : M.nxt < 4294967296
 brk : ∀ y, brk = some y → M.thn = base + lenQ rs ∧ M.nxt = y
structure LiveX (h : Base) (M : FM) (W : LM) (D : Dk) (L : Lg) (rs : List Recd) (m : Nat) : Prop where
 run : Run D L rs m
 es : RowsG (RecC h) M.es (foundQ L.m.base rs)
 str : StrOk h W L.stream
 thn : M.thn < 18446744073709551616
 nxt : M.nxt < 4294967296
def liveA (x p d : Nat) (M : FM) (W : LM) (Dm : DM) (D : Dk) (L : Lg) (rs : List Recd) (m : Nat) : List Asrt := lfA x d (pv p) M rs.length m L.m.base L.m.kept false ++ (lgA p d W L ++ dkA d Dm D)
def OpensR (x d : Nat) (D : Dk) (n : Nat) (u : Value) (h' : Base) (H' : List Asrt) : Prop := u = .bool true ∧ ∃ p M W Dm D' L' rs', LiveX h' M W D' L' rs' rs'.length ∧ NoTrip D' ∧ D'.kept.length = D.kept.length ∧ L'.m.n = n ∧ H' = liveA x p d M W Dm D' L' rs' rs'.length
set_option maxHeartbeats 16000000 in
theorem LOpens (h : Base) (x d : Nat) (Dm : DM) (lv : Value) (M : FM) (D : Dk) (n base kept : Nat) (rs : List Recd) (m : Nat) (brk : Option Nat) (hp : OpenP h M D n base kept rs m brk) :
  Tr Tryz.prog 22 [pv x] h (lfA x d lv M rs.length m base kept brk.isSome ++ dkA d Dm D) (OpensR x d D n) := by
 obtain ⟨hlo, hca, hon, hes, hth, hnx, hbk⟩ := hp
 obtain ⟨a, k, es, thn, nxt⟩ := M
 dsimp only at hes hth hnx hbk
 have hes15 := rows_15 hes
 have hesl : es.length = rs.length := by rw [hes.1, found_len]
 have hO := Open h d Dm D hlo.ok (by rw [hca]; decide)
 have b1 := hlo.b1
 have b2 := hlo.fin
 have b3 := hlo.len
 have b4 := hlo.few
 have b5 := hlo.k1
 unfold lastLSN at b2
 have hrl : rs.length ≤ 1000000000 := by
  have := (starts_rise base rs hlo.right).2.2
  have h2 := hlo.n2
  have h3 := hlo.ok.few
  omega
 unfold dkA at hO
 refine K.enter Tryz.func22 rfl (Nat.le_of_ble_eq_true rfl) (fun F => ?_)
 unfold lfA lfV dkA n64
 simp only [List.cons_append, List.nil_append]
 (repeat' first | refine X.rq ?_ | refine X.rc ?_ ?_ <;> intro hc <;> try omega)
 refine K.l_call (Fx.cal rfl) rfl hO (K.pp [2, 2, 2] rfl) rfl ?_
 rintro u h2 H' le2 ⟨r, D2, M2, H2, hop, rfl, hV⟩
 obtain ⟨o1, o2, o3, o4⟩ := hlo.open hca hop
 obtain ⟨L2, fs, rfl, hcase⟩ : ∃ L2 fs, r = .ok (L2, fs) ∧ ((∃ j, m ≤ j ∧ j ≤ rs.length ∧ fs = foundQ base (rs.take j) ∧ Run D2 L2 (rs.take j) j ∧ L2.m.n = n ∧ L2.m.base = base ∧ L2.m.kept = kept) ∨ (∃ y, brk = some y ∧ fs = [] ∧ Run D2 L2 [] 0 ∧ L2.m.n = n ∧ L2.m.base = base + lenQ rs ∧ L2.m.kept = y)) := by
  rcases o4 with ⟨j, L, q1, q2, q3, q4, q5, q6, q7⟩ | ⟨y, L, q1, q2, q3, q4, q5, q6⟩ | ⟨_, _, q⟩
  ·exact ⟨L, _, q3, .inl ⟨j, q1, q2, rfl, q4, q5, q6, q7⟩⟩
  ·exact ⟨L, _, q2, .inr ⟨y, q1, rfl, q3, q4, q5, q6⟩⟩
  ·exact absurd hon q
 clear o4
 obtain ⟨p, W, sv, rfl, hrs, hst, rfl⟩ := hV
 obtain ⟨fe, hfs, hfl, hfr⟩ := hrs
 obtain ⟨a4, c4, rfl⟩ := hfs.len
 obtain ⟨fl, hfl2⟩ : ∃ fl, fl = fs.length := ⟨_, rfl⟩
 rw [hfl, ← hfl2] at hfs ⊢
 obtain ⟨jj, hrun⟩ : ∃ rs2, Run D2 L2 rs2 rs2.length := by
  rcases hcase with ⟨j, q1, q2, _, q4, _⟩ | ⟨y, _, _, q3, _⟩
  ·exact ⟨rs.take j, by rw [List.length_take, Nat.min_eq_left q2]; exact q4⟩
  ·exact ⟨[], q3⟩
 have hok2 := hrun.lgOk
 have hB := LBase h2 p d W L2
 have hE := LEnd h2 p d W L2 hok2 hst
 have hK := LKept h2 p d W L2
 unfold lgA at hB hE hK ⊢
 unfold n64 at hB hE
 simp only [Go.K.nmz]
 (repeat' first | refine X.rq ?_ | refine X.rc ?_ ?_ <;> intro hc <;> try omega)
 refine X.sto ?_
 simp only [Go.K.nmz]
 (repeat' first | refine X.rs ?_ | refine X.rd ?_ ?_ <;> intro hc <;> try omega)
 apply K.c_seq
 refine K.c_join (β := Unit) (fun _ => [(0, pv x), (3, pv p), (4, .slice a4 fl c4)]) (fun _ => h2) (fun _ => blk p 34 (lgV d W L2) :: W.sA :: startsA W L2 :: blk d 109 (dkV M2 D2) :: keptA M2 D2 :: cacheA M2 D2 :: blk x 64 [dv d, pv p, bufV a rs.length k, .int .i64 m, .int .u64 (base : Int), .int .u32 kept, .bool brk.isSome, .int .u64 (thn : Int), .int .u32 nxt] :: bufA 45 15 a rs.length k es.flatten :: F)
  (fun _ => ∃ j, m ≤ j ∧ j ≤ rs.length ∧ fs = foundQ base (rs.take j) ∧ Run D2 L2 (rs.take j) j ∧ L2.m.n = n ∧ L2.m.base = base ∧ L2.m.kept = kept) (fun KJ hJ => ?_) ?_
 ·cases hbr : brk with
  | none =>
   have hci : ∃ j, m ≤ j ∧ j ≤ rs.length ∧ fs = foundQ base (rs.take j) ∧ Run D2 L2 (rs.take j) j ∧ L2.m.n = n ∧ L2.m.base = base ∧ L2.m.kept = kept := by
    rcases hcase with h | ⟨y, hy, _⟩
    ·exact h
    ·rw [hbr] at hy; cases hy
   subst hbr
   dsimp only [Option.isSome]
   apply K.c_seq
   refine X.draw ([blk x 64 [dv d, pv p, bufV a rs.length k, .int .i64 m, .int .u64 (base : Int), .int .u32 kept, .bool false, .int .u64 (thn : Int), .int .u32 nxt]]) [] (.pu 0 (.pu 1 (.pu 2 (.st 3 (.pu 4 (.pu 5 (.pu 6 (.pu 7 (.pu 8 (.pu 9 (.pu 10 (.pu 12 (.pu 13 (.pu 14 (.st 15 (.on 11 (.pu 16 (.pu 17 (.pu 18 (.pu 19 (.pu 21 (.pu 22 (.pu 23 (.st 24 (.on 20 (.pu 25 (.pu 26 (.pu 27 (.pu 28 (.pu 30 (.pu 31 (.pu 32 (.st 33 (.on 29 (.pu 34 (.pu 35 .nil)))))))))))))))))))))))))))))))))))) ?_ (hQ := by repeat (first | with_reducible refine K.NoPanic.then ?_ | with_reducible refine K.NoPanic.inBlock ?_ | with_reducible exact K.post_noPanic _ _ | exact K.post_noPanic _ _ | exact K.QN_noPanic | exact K.postS_noPanic | exact K.postX_noPanic | exact K.RPX_noPanic))
   refine K.d_pu rfl (fun _ _ => X.mv) rfl ?_
   refine K.d_pu rfl (fun _ _ => X.nc) rfl ?_
   refine K.d_pu rfl (fun _ _ => X.fa) rfl ?_
   refine K.d_st rfl X.ld rfl ?_
   refine K.d_pu rfl (fun _ _ => X.mv) rfl ?_
   first | refine K.d_skip rfl rfl rfl rfl ?_ | refine K.d_skipU rfl rfl rfl rfl rfl ?_ | refine K.d_puG rfl rfl rfl (fun _ _ => X.mv) rfl ?_
   first | refine K.d_skip rfl rfl rfl rfl ?_ | refine K.d_skipU rfl rfl rfl rfl rfl ?_ | refine K.d_puG rfl rfl rfl (fun _ _ => X.len) rfl ?_
   first | refine K.d_skip rfl rfl rfl rfl ?_ | refine K.d_skipU rfl rfl rfl rfl rfl ?_ | refine K.d_puG rfl rfl rfl (fun _ _ => X.beql) rfl ?_
   refine K.d_pu rfl (fun _ _ => X.pk) rfl ?_
   refine K.d_pu rfl (fun _ _ => X.mv) rfl ?_
   first | refine K.d_skip rfl rfl rfl rfl ?_ | refine K.d_skipU rfl rfl rfl rfl rfl ?_ | refine K.d_puG rfl rfl rfl (fun _ _ => X.mv) rfl ?_
   first | refine K.d_skip rfl rfl rfl rfl ?_ | refine K.d_skipU rfl rfl rfl rfl rfl ?_ | refine K.d_puG rfl rfl rfl (fun _ _ => X.mv) rfl ?_
   first | refine K.d_skip rfl rfl rfl rfl ?_ | refine K.d_skipU rfl rfl rfl rfl rfl ?_ | refine K.d_puG rfl rfl rfl (fun _ _ => X.nc) rfl ?_
   first | refine K.d_skip rfl rfl rfl rfl ?_ | refine K.d_skipU rfl rfl rfl rfl rfl ?_ | refine K.d_puG rfl rfl rfl (fun _ _ => X.fa) rfl ?_
   first | refine K.d_skipS rfl rfl rfl rfl ?_ | refine K.d_skipUS rfl rfl rfl rfl rfl ?_ | refine K.d_stG rfl rfl rfl X.ld rfl ?_
   refine K.d_on rfl (fun KK hKK => ?_)
   first | refine K.s_skip rfl rfl rfl ?_ | refine K.s_skipU rfl rfl rfl rfl ?_
   refine K.l_nil ?_
   refine X.onE hKK ?_
   first | refine K.d_skip rfl rfl rfl rfl ?_ | refine K.d_skipU rfl rfl rfl rfl rfl ?_ | refine K.d_puG rfl rfl rfl (fun _ _ => X.beql) rfl ?_
   refine K.d_pu rfl (fun _ _ => X.pk) rfl ?_
   refine K.d_pu rfl (fun _ _ => X.mv) rfl ?_
   first | refine K.d_skip rfl rfl rfl rfl ?_ | refine K.d_skipU rfl rfl rfl rfl rfl ?_ | refine K.d_puG rfl rfl rfl (fun _ _ => X.mv) rfl ?_
   first | refine K.d_skip rfl rfl rfl rfl ?_ | refine K.d_skipU rfl rfl rfl rfl rfl ?_ | refine K.d_puG rfl rfl rfl (fun _ _ => X.mv) rfl ?_
   first | refine K.d_skip rfl rfl rfl rfl ?_ | refine K.d_skipU rfl rfl rfl rfl rfl ?_ | refine K.d_puG rfl rfl rfl (fun _ _ => X.nc) rfl ?_
   first | refine K.d_skip rfl rfl rfl rfl ?_ | refine K.d_skipU rfl rfl rfl rfl rfl ?_ | refine K.d_puG rfl rfl rfl (fun _ _ => X.fa) rfl ?_
   first | refine K.d_skipS rfl rfl rfl rfl ?_ | refine K.d_skipUS rfl rfl rfl rfl rfl ?_ | refine K.d_stG rfl rfl rfl X.ld rfl ?_
   refine K.d_on rfl (fun KK hKK => ?_)
   first | refine K.s_skip rfl rfl rfl ?_ | refine K.s_skipU rfl rfl rfl rfl ?_
   refine K.l_nil ?_
   refine X.onE hKK ?_
   first | refine K.d_skip rfl rfl rfl rfl ?_ | refine K.d_skipU rfl rfl rfl rfl rfl ?_ | refine K.d_puG rfl rfl rfl (fun _ _ => X.beql) rfl ?_
   refine K.d_pu rfl (fun _ _ => X.pk) rfl ?_
   refine K.d_pu rfl (fun _ _ => X.mv) rfl ?_
   first | refine K.d_skip rfl rfl rfl rfl ?_ | refine K.d_skipU rfl rfl rfl rfl rfl ?_ | refine K.d_puG rfl rfl rfl (fun _ _ => X.mv) rfl ?_
   first | refine K.d_skip rfl rfl rfl rfl ?_ | refine K.d_skipU rfl rfl rfl rfl rfl ?_ | refine K.d_puG rfl rfl rfl (fun _ _ => X.mv) rfl ?_
   first | refine K.d_skip rfl rfl rfl rfl ?_ | refine K.d_skipU rfl rfl rfl rfl rfl ?_ | refine K.d_puG rfl rfl rfl (fun _ _ => X.nc) rfl ?_
   first | refine K.d_skip rfl rfl rfl rfl ?_ | refine K.d_skipU rfl rfl rfl rfl rfl ?_ | refine K.d_puG rfl rfl rfl (fun _ _ => X.fa) rfl ?_
   first | refine K.d_skipS rfl rfl rfl rfl ?_ | refine K.d_skipUS rfl rfl rfl rfl rfl ?_ | refine K.d_stG rfl rfl rfl X.ld rfl ?_
   refine K.d_on rfl (fun KK hKK => ?_)
   first | refine K.s_skip rfl rfl rfl ?_ | refine K.s_skipU rfl rfl rfl rfl ?_
   refine K.l_nil ?_
   refine X.onE hKK ?_
   first | refine K.d_skip rfl rfl rfl rfl ?_ | refine K.d_skipU rfl rfl rfl rfl rfl ?_ | refine K.d_puG rfl rfl rfl (fun _ _ => X.beql) rfl ?_
   refine K.d_pu rfl (fun _ _ => X.pk) rfl ?_
   refine K.d_nil ?_
   (repeat' first | refine X.rq ?_ | refine X.rc ?_ ?_ <;> intro hc <;> try omega)
   refine K.a_join hJ () hci (by repeat (first | exact K.Sub.nil _ | refine K.Sub.cons rfl ?_)) rfl rfl
  | some y =>
   subst hbr
   obtain ⟨hth1, rfl⟩ := hbk y rfl
   dsimp only [Option.isSome]
   by_cases hz : fl = 0
   rotate_left
   ·have hci : ∃ j, m ≤ j ∧ j ≤ rs.length ∧ fs = foundQ base (rs.take j) ∧ Run D2 L2 (rs.take j) j ∧ L2.m.n = n ∧ L2.m.base = base ∧ L2.m.kept = kept := by
     rcases hcase with h | ⟨y, hy, hf0, _⟩
     ·exact h
     ·exfalso; rw [hf0] at hfl2; exact hz hfl2
    apply K.c_seq
    refine X.draw ([blk x 64 [dv d, pv p, bufV a rs.length k, .int .i64 m, .int .u64 (base : Int), .int .u32 kept, .bool true, .int .u64 (thn : Int), .int .u32 nxt]]) [] (.pu 0 (.pu 1 (.pu 2 (.st 3 (.pu 4 (.pu 5 (.pu 6 (.pu 7 (.pu 8 (.pu 9 (.pu 10 (.pu 12 (.pu 13 (.pu 14 (.st 15 (.on 11 (.pu 16 (.pu 17 (.pu 18 (.pu 19 (.pu 21 (.pu 22 (.pu 23 (.st 24 (.on 20 (.pu 25 (.pu 26 (.pu 27 (.pu 28 (.pu 30 (.pu 31 (.pu 32 (.st 33 (.on 29 (.pu 34 (.pu 35 .nil)))))))))))))))))))))))))))))))))))) ?_ (hQ := by repeat (first | with_reducible refine K.NoPanic.then ?_ | with_reducible refine K.NoPanic.inBlock ?_ | with_reducible exact K.post_noPanic _ _ | exact K.post_noPanic _ _ | exact K.QN_noPanic | exact K.postS_noPanic | exact K.postX_noPanic | exact K.RPX_noPanic))
    refine K.d_pu rfl (fun _ _ => X.mv) rfl ?_
    refine K.d_pu rfl (fun _ _ => X.nc) rfl ?_
    refine K.d_pu rfl (fun _ _ => X.fa) rfl ?_
    refine K.d_st rfl X.ld rfl ?_
    refine K.d_pu rfl (fun _ _ => X.mv) rfl ?_
    first | refine K.d_skip rfl rfl rfl rfl ?_ | refine K.d_skipU rfl rfl rfl rfl rfl ?_ | refine K.d_puG rfl rfl rfl (fun _ _ => X.mv) rfl ?_
    first | refine K.d_skip rfl rfl rfl rfl ?_ | refine K.d_skipU rfl rfl rfl rfl rfl ?_ | refine K.d_puG rfl rfl rfl (fun _ _ => X.len) rfl ?_
    first | refine K.d_skip rfl rfl rfl rfl ?_ | refine K.d_skipU rfl rfl rfl rfl rfl ?_ | refine K.d_puG rfl rfl rfl (fun _ _ => X.beql) rfl ?_
    rw [decide_eq_false (show ¬ ((fl : Int) = 0) by omega)]
    refine K.d_pu rfl (fun _ _ => X.pk) rfl ?_
    refine K.d_pu rfl (fun _ _ => X.mv) rfl ?_
    first | refine K.d_skip rfl rfl rfl rfl ?_ | refine K.d_skipU rfl rfl rfl rfl rfl ?_ | refine K.d_puG rfl rfl rfl (fun _ _ => X.mv) rfl ?_
    first | refine K.d_skip rfl rfl rfl rfl ?_ | refine K.d_skipU rfl rfl rfl rfl rfl ?_ | refine K.d_puG rfl rfl rfl (fun _ _ => X.mv) rfl ?_
    first | refine K.d_skip rfl rfl rfl rfl ?_ | refine K.d_skipU rfl rfl rfl rfl rfl ?_ | refine K.d_puG rfl rfl rfl (fun _ _ => X.nc) rfl ?_
    first | refine K.d_skip rfl rfl rfl rfl ?_ | refine K.d_skipU rfl rfl rfl rfl rfl ?_ | refine K.d_puG rfl rfl rfl (fun _ _ => X.fa) rfl ?_
    first | refine K.d_skipS rfl rfl rfl rfl ?_ | refine K.d_skipUS rfl rfl rfl rfl rfl ?_ | refine K.d_stG rfl rfl rfl X.ld rfl ?_
    refine K.d_on rfl (fun KK hKK => ?_)
    first | refine K.s_skip rfl rfl rfl ?_ | refine K.s_skipU rfl rfl rfl rfl ?_
    refine K.l_nil ?_
    refine X.onE hKK ?_
    first | refine K.d_skip rfl rfl rfl rfl ?_ | refine K.d_skipU rfl rfl rfl rfl rfl ?_ | refine K.d_puG rfl rfl rfl (fun _ _ => X.beql) rfl ?_
    refine K.d_pu rfl (fun _ _ => X.pk) rfl ?_
    refine K.d_pu rfl (fun _ _ => X.mv) rfl ?_
    first | refine K.d_skip rfl rfl rfl rfl ?_ | refine K.d_skipU rfl rfl rfl rfl rfl ?_ | refine K.d_puG rfl rfl rfl (fun _ _ => X.mv) rfl ?_
    first | refine K.d_skip rfl rfl rfl rfl ?_ | refine K.d_skipU rfl rfl rfl rfl rfl ?_ | refine K.d_puG rfl rfl rfl (fun _ _ => X.mv) rfl ?_
    first | refine K.d_skip rfl rfl rfl rfl ?_ | refine K.d_skipU rfl rfl rfl rfl rfl ?_ | refine K.d_puG rfl rfl rfl (fun _ _ => X.nc) rfl ?_
    first | refine K.d_skip rfl rfl rfl rfl ?_ | refine K.d_skipU rfl rfl rfl rfl rfl ?_ | refine K.d_puG rfl rfl rfl (fun _ _ => X.fa) rfl ?_
    first | refine K.d_skipS rfl rfl rfl rfl ?_ | refine K.d_skipUS rfl rfl rfl rfl rfl ?_ | refine K.d_stG rfl rfl rfl X.ld rfl ?_
    refine K.d_on rfl (fun KK hKK => ?_)
    first | refine K.s_skip rfl rfl rfl ?_ | refine K.s_skipU rfl rfl rfl rfl ?_
    refine K.l_nil ?_
    refine X.onE hKK ?_
    first | refine K.d_skip rfl rfl rfl rfl ?_ | refine K.d_skipU rfl rfl rfl rfl rfl ?_ | refine K.d_puG rfl rfl rfl (fun _ _ => X.beql) rfl ?_
    refine K.d_pu rfl (fun _ _ => X.pk) rfl ?_
    refine K.d_pu rfl (fun _ _ => X.mv) rfl ?_
    first | refine K.d_skip rfl rfl rfl rfl ?_ | refine K.d_skipU rfl rfl rfl rfl rfl ?_ | refine K.d_puG rfl rfl rfl (fun _ _ => X.mv) rfl ?_
    first | refine K.d_skip rfl rfl rfl rfl ?_ | refine K.d_skipU rfl rfl rfl rfl rfl ?_ | refine K.d_puG rfl rfl rfl (fun _ _ => X.mv) rfl ?_
    first | refine K.d_skip rfl rfl rfl rfl ?_ | refine K.d_skipU rfl rfl rfl rfl rfl ?_ | refine K.d_puG rfl rfl rfl (fun _ _ => X.nc) rfl ?_
    first | refine K.d_skip rfl rfl rfl rfl ?_ | refine K.d_skipU rfl rfl rfl rfl rfl ?_ | refine K.d_puG rfl rfl rfl (fun _ _ => X.fa) rfl ?_
    first | refine K.d_skipS rfl rfl rfl rfl ?_ | refine K.d_skipUS rfl rfl rfl rfl rfl ?_ | refine K.d_stG rfl rfl rfl X.ld rfl ?_
    refine K.d_on rfl (fun KK hKK => ?_)
    first | refine K.s_skip rfl rfl rfl ?_ | refine K.s_skipU rfl rfl rfl rfl ?_
    refine K.l_nil ?_
    refine X.onE hKK ?_
    first | refine K.d_skip rfl rfl rfl rfl ?_ | refine K.d_skipU rfl rfl rfl rfl rfl ?_ | refine K.d_puG rfl rfl rfl (fun _ _ => X.beql) rfl ?_
    refine K.d_pu rfl (fun _ _ => X.pk) rfl ?_
    refine K.d_nil ?_
    (repeat' first | refine X.rq ?_ | refine X.rc ?_ ?_ <;> intro hc <;> try omega)
    refine K.a_join hJ () hci (by repeat (first | exact K.Sub.nil _ | refine K.Sub.cons rfl ?_)) rfl rfl
   by_cases hb1 : L2.m.base = thn
   rotate_left
   ·have hci : ∃ j, m ≤ j ∧ j ≤ rs.length ∧ fs = foundQ base (rs.take j) ∧ Run D2 L2 (rs.take j) j ∧ L2.m.n = n ∧ L2.m.base = base ∧ L2.m.kept = kept := by
     rcases hcase with h | ⟨y, hy, hf0, _, _, hq, _⟩
     ·exact h
     ·exfalso; omega
    apply K.c_seq
    refine X.draw ([blk x 64 [dv d, pv p, bufV a rs.length k, .int .i64 m, .int .u64 (base : Int), .int .u32 kept, .bool true, .int .u64 (thn : Int), .int .u32 nxt]]) [] (.pu 0 (.pu 1 (.pu 2 (.st 3 (.pu 4 (.pu 5 (.pu 6 (.pu 7 (.pu 8 (.pu 9 (.pu 10 (.pu 12 (.pu 13 (.pu 14 (.st 15 (.on 11 (.pu 16 (.pu 17 (.pu 18 (.pu 19 (.pu 21 (.pu 22 (.pu 23 (.st 24 (.on 20 (.pu 25 (.pu 26 (.pu 27 (.pu 28 (.pu 30 (.pu 31 (.pu 32 (.st 33 (.on 29 (.pu 34 (.pu 35 .nil)))))))))))))))))))))))))))))))))))) ?_ (hQ := by repeat (first | with_reducible refine K.NoPanic.then ?_ | with_reducible refine K.NoPanic.inBlock ?_ | with_reducible exact K.post_noPanic _ _ | exact K.post_noPanic _ _ | exact K.QN_noPanic | exact K.postS_noPanic | exact K.postX_noPanic | exact K.RPX_noPanic))
    refine K.d_pu rfl (fun _ _ => X.mv) rfl ?_
    refine K.d_pu rfl (fun _ _ => X.nc) rfl ?_
    refine K.d_pu rfl (fun _ _ => X.fa) rfl ?_
    refine K.d_st rfl X.ld rfl ?_
    refine K.d_pu rfl (fun _ _ => X.mv) rfl ?_
    first | refine K.d_skip rfl rfl rfl rfl ?_ | refine K.d_skipU rfl rfl rfl rfl rfl ?_ | refine K.d_puG rfl rfl rfl (fun _ _ => X.mv) rfl ?_
    first | refine K.d_skip rfl rfl rfl rfl ?_ | refine K.d_skipU rfl rfl rfl rfl rfl ?_ | refine K.d_puG rfl rfl rfl (fun _ _ => X.len) rfl ?_
    first | refine K.d_skip rfl rfl rfl rfl ?_ | refine K.d_skipU rfl rfl rfl rfl rfl ?_ | refine K.d_puG rfl rfl rfl (fun _ _ => X.beql) rfl ?_
    rw [decide_eq_true (show (fl : Int) = 0 by omega)]
    refine K.d_pu rfl (fun _ _ => X.pk) rfl ?_
    refine K.d_pu rfl (fun _ _ => X.mv) rfl ?_
    first | refine K.d_skip rfl rfl rfl rfl ?_ | refine K.d_skipU rfl rfl rfl rfl rfl ?_ | refine K.d_puG rfl rfl rfl (fun _ _ => X.mv) rfl ?_
    first | refine K.d_skip rfl rfl rfl rfl ?_ | refine K.d_skipU rfl rfl rfl rfl rfl ?_ | refine K.d_puG rfl rfl rfl (fun _ _ => X.mv) rfl ?_
    first | refine K.d_skip rfl rfl rfl rfl ?_ | refine K.d_skipU rfl rfl rfl rfl rfl ?_ | refine K.d_puG rfl rfl rfl (fun _ _ => X.nc) rfl ?_
    first | refine K.d_skip rfl rfl rfl rfl ?_ | refine K.d_skipU rfl rfl rfl rfl rfl ?_ | refine K.d_puG rfl rfl rfl (fun _ _ => X.fa) rfl ?_
    first | refine K.d_skipS rfl rfl rfl rfl ?_ | refine K.d_skipUS rfl rfl rfl rfl rfl ?_ | refine K.d_stG rfl rfl rfl X.ld rfl ?_
    refine K.d_on rfl (fun KK hKK => ?_)
    refine K.s_take rfl rfl ?_
    refine K.l_callV (Fx.cal rfl) rfl hB (K.pp [0, 0, 0] rfl) rfl rfl ?_
    simp only [Go.K.nmz]
    refine K.l_nil ?_
    refine X.onE hKK ?_
    first | refine K.d_skip rfl rfl rfl rfl ?_ | refine K.d_skipU rfl rfl rfl rfl rfl ?_ | refine K.d_puG rfl rfl rfl (fun _ _ => X.beql) rfl ?_
    rw [decide_eq_false (show ¬ ((L2.m.base : Int) = thn) by omega)]
    refine K.d_pu rfl (fun _ _ => X.pk) rfl ?_
    refine K.d_pu rfl (fun _ _ => X.mv) rfl ?_
    first | refine K.d_skip rfl rfl rfl rfl ?_ | refine K.d_skipU rfl rfl rfl rfl rfl ?_ | refine K.d_puG rfl rfl rfl (fun _ _ => X.mv) rfl ?_
    first | refine K.d_skip rfl rfl rfl rfl ?_ | refine K.d_skipU rfl rfl rfl rfl rfl ?_ | refine K.d_puG rfl rfl rfl (fun _ _ => X.mv) rfl ?_
    first | refine K.d_skip rfl rfl rfl rfl ?_ | refine K.d_skipU rfl rfl rfl rfl rfl ?_ | refine K.d_puG rfl rfl rfl (fun _ _ => X.nc) rfl ?_
    first | refine K.d_skip rfl rfl rfl rfl ?_ | refine K.d_skipU rfl rfl rfl rfl rfl ?_ | refine K.d_puG rfl rfl rfl (fun _ _ => X.fa) rfl ?_
    first | refine K.d_skipS rfl rfl rfl rfl ?_ | refine K.d_skipUS rfl rfl rfl rfl rfl ?_ | refine K.d_stG rfl rfl rfl X.ld rfl ?_
    refine K.d_on rfl (fun KK hKK => ?_)
    first | refine K.s_skip rfl rfl rfl ?_ | refine K.s_skipU rfl rfl rfl rfl ?_
    refine K.l_nil ?_
    refine X.onE hKK ?_
    first | refine K.d_skip rfl rfl rfl rfl ?_ | refine K.d_skipU rfl rfl rfl rfl rfl ?_ | refine K.d_puG rfl rfl rfl (fun _ _ => X.beql) rfl ?_
    refine K.d_pu rfl (fun _ _ => X.pk) rfl ?_
    refine K.d_pu rfl (fun _ _ => X.mv) rfl ?_
    first | refine K.d_skip rfl rfl rfl rfl ?_ | refine K.d_skipU rfl rfl rfl rfl rfl ?_ | refine K.d_puG rfl rfl rfl (fun _ _ => X.mv) rfl ?_
    first | refine K.d_skip rfl rfl rfl rfl ?_ | refine K.d_skipU rfl rfl rfl rfl rfl ?_ | refine K.d_puG rfl rfl rfl (fun _ _ => X.mv) rfl ?_
    first | refine K.d_skip rfl rfl rfl rfl ?_ | refine K.d_skipU rfl rfl rfl rfl rfl ?_ | refine K.d_puG rfl rfl rfl (fun _ _ => X.nc) rfl ?_
    first | refine K.d_skip rfl rfl rfl rfl ?_ | refine K.d_skipU rfl rfl rfl rfl rfl ?_ | refine K.d_puG rfl rfl rfl (fun _ _ => X.fa) rfl ?_
    first | refine K.d_skipS rfl rfl rfl rfl ?_ | refine K.d_skipUS rfl rfl rfl rfl rfl ?_ | refine K.d_stG rfl rfl rfl X.ld rfl ?_
    refine K.d_on rfl (fun KK hKK => ?_)
    first | refine K.s_skip rfl rfl rfl ?_ | refine K.s_skipU rfl rfl rfl rfl ?_
    refine K.l_nil ?_
    refine X.onE hKK ?_
    first | refine K.d_skip rfl rfl rfl rfl ?_ | refine K.d_skipU rfl rfl rfl rfl rfl ?_ | refine K.d_puG rfl rfl rfl (fun _ _ => X.beql) rfl ?_
    refine K.d_pu rfl (fun _ _ => X.pk) rfl ?_
    refine K.d_nil ?_
    (repeat' first | refine X.rq ?_ | refine X.rc ?_ ?_ <;> intro hc <;> try omega)
    refine K.a_join hJ () hci (by repeat (first | exact K.Sub.nil _ | refine K.Sub.cons rfl ?_)) rfl rfl
   have hend : endQ L2 = L2.m.base := by
    rcases hcase with ⟨j, q1, q2, q3, q4, _⟩ | ⟨y, _, _, q3, _⟩
    ·have hj0 : j = 0 := by
      have := congrArg List.length q3
      rw [found_len, List.length_take, ← hfl2, hz] at this
      omega
     subst hj0
     unfold endQ
     rw [q4.str]; rfl
    ·unfold endQ
     rw [q3.str]; rfl
   by_cases hk1 : L2.m.kept = nxt
   rotate_left
   ·have hci : ∃ j, m ≤ j ∧ j ≤ rs.length ∧ fs = foundQ base (rs.take j) ∧ Run D2 L2 (rs.take j) j ∧ L2.m.n = n ∧ L2.m.base = base ∧ L2.m.kept = kept := by
     rcases hcase with h | ⟨y, hy, hf0, _, _, _, hq⟩
     ·exact h
     ·exfalso; cases hy; exact hk1 hq
    apply K.c_seq
    refine X.draw ([blk x 64 [dv d, pv p, bufV a rs.length k, .int .i64 m, .int .u64 (base : Int), .int .u32 kept, .bool true, .int .u64 (thn : Int), .int .u32 nxt]]) [] (.pu 0 (.pu 1 (.pu 2 (.st 3 (.pu 4 (.pu 5 (.pu 6 (.pu 7 (.pu 8 (.pu 9 (.pu 10 (.pu 12 (.pu 13 (.pu 14 (.st 15 (.on 11 (.pu 16 (.pu 17 (.pu 18 (.pu 19 (.pu 21 (.pu 22 (.pu 23 (.st 24 (.on 20 (.pu 25 (.pu 26 (.pu 27 (.pu 28 (.pu 30 (.pu 31 (.pu 32 (.st 33 (.on 29 (.pu 34 (.pu 35 .nil)))))))))))))))))))))))))))))))))))) ?_ (hQ := by repeat (first | with_reducible refine K.NoPanic.then ?_ | with_reducible refine K.NoPanic.inBlock ?_ | with_reducible exact K.post_noPanic _ _ | exact K.post_noPanic _ _ | exact K.QN_noPanic | exact K.postS_noPanic | exact K.postX_noPanic | exact K.RPX_noPanic))
    refine K.d_pu rfl (fun _ _ => X.mv) rfl ?_
    refine K.d_pu rfl (fun _ _ => X.nc) rfl ?_
    refine K.d_pu rfl (fun _ _ => X.fa) rfl ?_
    refine K.d_st rfl X.ld rfl ?_
    refine K.d_pu rfl (fun _ _ => X.mv) rfl ?_
    first | refine K.d_skip rfl rfl rfl rfl ?_ | refine K.d_skipU rfl rfl rfl rfl rfl ?_ | refine K.d_puG rfl rfl rfl (fun _ _ => X.mv) rfl ?_
    first | refine K.d_skip rfl rfl rfl rfl ?_ | refine K.d_skipU rfl rfl rfl rfl rfl ?_ | refine K.d_puG rfl rfl rfl (fun _ _ => X.len) rfl ?_
    first | refine K.d_skip rfl rfl rfl rfl ?_ | refine K.d_skipU rfl rfl rfl rfl rfl ?_ | refine K.d_puG rfl rfl rfl (fun _ _ => X.beql) rfl ?_
    rw [decide_eq_true (show (fl : Int) = 0 by omega)]
    refine K.d_pu rfl (fun _ _ => X.pk) rfl ?_
    refine K.d_pu rfl (fun _ _ => X.mv) rfl ?_
    first | refine K.d_skip rfl rfl rfl rfl ?_ | refine K.d_skipU rfl rfl rfl rfl rfl ?_ | refine K.d_puG rfl rfl rfl (fun _ _ => X.mv) rfl ?_
    first | refine K.d_skip rfl rfl rfl rfl ?_ | refine K.d_skipU rfl rfl rfl rfl rfl ?_ | refine K.d_puG rfl rfl rfl (fun _ _ => X.mv) rfl ?_
    first | refine K.d_skip rfl rfl rfl rfl ?_ | refine K.d_skipU rfl rfl rfl rfl rfl ?_ | refine K.d_puG rfl rfl rfl (fun _ _ => X.nc) rfl ?_
    first | refine K.d_skip rfl rfl rfl rfl ?_ | refine K.d_skipU rfl rfl rfl rfl rfl ?_ | refine K.d_puG rfl rfl rfl (fun _ _ => X.fa) rfl ?_
    first | refine K.d_skipS rfl rfl rfl rfl ?_ | refine K.d_skipUS rfl rfl rfl rfl rfl ?_ | refine K.d_stG rfl rfl rfl X.ld rfl ?_
    refine K.d_on rfl (fun KK hKK => ?_)
    refine K.s_take rfl rfl ?_
    refine K.l_callV (Fx.cal rfl) rfl hB (K.pp [0, 0, 0] rfl) rfl rfl ?_
    simp only [Go.K.nmz]
    refine K.l_nil ?_
    refine X.onE hKK ?_
    first | refine K.d_skip rfl rfl rfl rfl ?_ | refine K.d_skipU rfl rfl rfl rfl rfl ?_ | refine K.d_puG rfl rfl rfl (fun _ _ => X.beql) rfl ?_
    rw [decide_eq_true (show (L2.m.base : Int) = thn by omega)]
    refine K.d_pu rfl (fun _ _ => X.pk) rfl ?_
    refine K.d_pu rfl (fun _ _ => X.mv) rfl ?_
    first | refine K.d_skip rfl rfl rfl rfl ?_ | refine K.d_skipU rfl rfl rfl rfl rfl ?_ | refine K.d_puG rfl rfl rfl (fun _ _ => X.mv) rfl ?_
    first | refine K.d_skip rfl rfl rfl rfl ?_ | refine K.d_skipU rfl rfl rfl rfl rfl ?_ | refine K.d_puG rfl rfl rfl (fun _ _ => X.mv) rfl ?_
    first | refine K.d_skip rfl rfl rfl rfl ?_ | refine K.d_skipU rfl rfl rfl rfl rfl ?_ | refine K.d_puG rfl rfl rfl (fun _ _ => X.nc) rfl ?_
    first | refine K.d_skip rfl rfl rfl rfl ?_ | refine K.d_skipU rfl rfl rfl rfl rfl ?_ | refine K.d_puG rfl rfl rfl (fun _ _ => X.fa) rfl ?_
    first | refine K.d_skipS rfl rfl rfl rfl ?_ | refine K.d_skipUS rfl rfl rfl rfl rfl ?_ | refine K.d_stG rfl rfl rfl X.ld rfl ?_
    refine K.d_on rfl (fun KK hKK => ?_)
    refine K.s_take rfl rfl ?_
    refine K.l_callV (Fx.cal rfl) rfl hE (K.pp [0, 0, 0] rfl) rfl rfl ?_
    simp only [Go.K.nmz]
    refine K.l_nil ?_
    refine X.onE hKK ?_
    first | refine K.d_skip rfl rfl rfl rfl ?_ | refine K.d_skipU rfl rfl rfl rfl rfl ?_ | refine K.d_puG rfl rfl rfl (fun _ _ => X.beql) rfl ?_
    rw [decide_eq_true (show (endQ L2 : Int) = thn by omega)]
    refine K.d_pu rfl (fun _ _ => X.pk) rfl ?_
    refine K.d_pu rfl (fun _ _ => X.mv) rfl ?_
    first | refine K.d_skip rfl rfl rfl rfl ?_ | refine K.d_skipU rfl rfl rfl rfl rfl ?_ | refine K.d_puG rfl rfl rfl (fun _ _ => X.mv) rfl ?_
    first | refine K.d_skip rfl rfl rfl rfl ?_ | refine K.d_skipU rfl rfl rfl rfl rfl ?_ | refine K.d_puG rfl rfl rfl (fun _ _ => X.mv) rfl ?_
    first | refine K.d_skip rfl rfl rfl rfl ?_ | refine K.d_skipU rfl rfl rfl rfl rfl ?_ | refine K.d_puG rfl rfl rfl (fun _ _ => X.nc) rfl ?_
    first | refine K.d_skip rfl rfl rfl rfl ?_ | refine K.d_skipU rfl rfl rfl rfl rfl ?_ | refine K.d_puG rfl rfl rfl (fun _ _ => X.fa) rfl ?_
    first | refine K.d_skipS rfl rfl rfl rfl ?_ | refine K.d_skipUS rfl rfl rfl rfl rfl ?_ | refine K.d_stG rfl rfl rfl X.ld rfl ?_
    refine K.d_on rfl (fun KK hKK => ?_)
    refine K.s_take rfl rfl ?_
    refine K.l_callV (Fx.cal rfl) rfl hK (K.pp [0, 0, 0] rfl) rfl rfl ?_
    simp only [Go.K.nmz]
    refine K.l_nil ?_
    refine X.onE hKK ?_
    first | refine K.d_skip rfl rfl rfl rfl ?_ | refine K.d_skipU rfl rfl rfl rfl rfl ?_ | refine K.d_puG rfl rfl rfl (fun _ _ => X.beql) rfl ?_
    rw [decide_eq_false (show ¬ ((L2.m.kept : Int) = nxt) by omega)]
    refine K.d_pu rfl (fun _ _ => X.pk) rfl ?_
    refine K.d_nil ?_
    (repeat' first | refine X.rq ?_ | refine X.rc ?_ ?_ <;> intro hc <;> try omega)
    refine K.a_join hJ () hci (by repeat (first | exact K.Sub.nil _ | refine K.Sub.cons rfl ?_)) rfl rfl
   apply K.c_seq
   refine X.draw ([blk x 64 [dv d, pv p, bufV a rs.length k, .int .i64 m, .int .u64 (base : Int), .int .u32 kept, .bool true, .int .u64 (thn : Int), .int .u32 nxt]]) [] (.pu 0 (.pu 1 (.pu 2 (.st 3 (.pu 4 (.pu 5 (.pu 6 (.pu 7 (.pu 8 (.pu 9 (.pu 10 (.pu 12 (.pu 13 (.pu 14 (.st 15 (.on 11 (.pu 16 (.pu 17 (.pu 18 (.pu 19 (.pu 21 (.pu 22 (.pu 23 (.st 24 (.on 20 (.pu 25 (.pu 26 (.pu 27 (.pu 28 (.pu 30 (.pu 31 (.pu 32 (.st 33 (.on 29 (.pu 34 (.pu 35 .nil)))))))))))))))))))))))))))))))))))) ?_ (hQ := by repeat (first | with_reducible refine K.NoPanic.then ?_ | with_reducible refine K.NoPanic.inBlock ?_ | with_reducible exact K.post_noPanic _ _ | exact K.post_noPanic _ _ | exact K.QN_noPanic | exact K.postS_noPanic | exact K.postX_noPanic | exact K.RPX_noPanic))
   refine K.d_pu rfl (fun _ _ => X.mv) rfl ?_
   refine K.d_pu rfl (fun _ _ => X.nc) rfl ?_
   refine K.d_pu rfl (fun _ _ => X.fa) rfl ?_
   refine K.d_st rfl X.ld rfl ?_
   refine K.d_pu rfl (fun _ _ => X.mv) rfl ?_
   first | refine K.d_skip rfl rfl rfl rfl ?_ | refine K.d_skipU rfl rfl rfl rfl rfl ?_ | refine K.d_puG rfl rfl rfl (fun _ _ => X.mv) rfl ?_
   first | refine K.d_skip rfl rfl rfl rfl ?_ | refine K.d_skipU rfl rfl rfl rfl rfl ?_ | refine K.d_puG rfl rfl rfl (fun _ _ => X.len) rfl ?_
   first | refine K.d_skip rfl rfl rfl rfl ?_ | refine K.d_skipU rfl rfl rfl rfl rfl ?_ | refine K.d_puG rfl rfl rfl (fun _ _ => X.beql) rfl ?_
   rw [decide_eq_true (show (fl : Int) = 0 by omega)]
   refine K.d_pu rfl (fun _ _ => X.pk) rfl ?_
   refine K.d_pu rfl (fun _ _ => X.mv) rfl ?_
   first | refine K.d_skip rfl rfl rfl rfl ?_ | refine K.d_skipU rfl rfl rfl rfl rfl ?_ | refine K.d_puG rfl rfl rfl (fun _ _ => X.mv) rfl ?_
   first | refine K.d_skip rfl rfl rfl rfl ?_ | refine K.d_skipU rfl rfl rfl rfl rfl ?_ | refine K.d_puG rfl rfl rfl (fun _ _ => X.mv) rfl ?_
   first | refine K.d_skip rfl rfl rfl rfl ?_ | refine K.d_skipU rfl rfl rfl rfl rfl ?_ | refine K.d_puG rfl rfl rfl (fun _ _ => X.nc) rfl ?_
   first | refine K.d_skip rfl rfl rfl rfl ?_ | refine K.d_skipU rfl rfl rfl rfl rfl ?_ | refine K.d_puG rfl rfl rfl (fun _ _ => X.fa) rfl ?_
   first | refine K.d_skipS rfl rfl rfl rfl ?_ | refine K.d_skipUS rfl rfl rfl rfl rfl ?_ | refine K.d_stG rfl rfl rfl X.ld rfl ?_
   refine K.d_on rfl (fun KK hKK => ?_)
   refine K.s_take rfl rfl ?_
   refine K.l_callV (Fx.cal rfl) rfl hB (K.pp [0, 0, 0] rfl) rfl rfl ?_
   simp only [Go.K.nmz]
   refine K.l_nil ?_
   refine X.onE hKK ?_
   first | refine K.d_skip rfl rfl rfl rfl ?_ | refine K.d_skipU rfl rfl rfl rfl rfl ?_ | refine K.d_puG rfl rfl rfl (fun _ _ => X.beql) rfl ?_
   rw [decide_eq_true (show (L2.m.base : Int) = thn by omega)]
   refine K.d_pu rfl (fun _ _ => X.pk) rfl ?_
   refine K.d_pu rfl (fun _ _ => X.mv) rfl ?_
   first | refine K.d_skip rfl rfl rfl rfl ?_ | refine K.d_skipU rfl rfl rfl rfl rfl ?_ | refine K.d_puG rfl rfl rfl (fun _ _ => X.mv) rfl ?_
   first | refine K.d_skip rfl rfl rfl rfl ?_ | refine K.d_skipU rfl rfl rfl rfl rfl ?_ | refine K.d_puG rfl rfl rfl (fun _ _ => X.mv) rfl ?_
   first | refine K.d_skip rfl rfl rfl rfl ?_ | refine K.d_skipU rfl rfl rfl rfl rfl ?_ | refine K.d_puG rfl rfl rfl (fun _ _ => X.nc) rfl ?_
   first | refine K.d_skip rfl rfl rfl rfl ?_ | refine K.d_skipU rfl rfl rfl rfl rfl ?_ | refine K.d_puG rfl rfl rfl (fun _ _ => X.fa) rfl ?_
   first | refine K.d_skipS rfl rfl rfl rfl ?_ | refine K.d_skipUS rfl rfl rfl rfl rfl ?_ | refine K.d_stG rfl rfl rfl X.ld rfl ?_
   refine K.d_on rfl (fun KK hKK => ?_)
   refine K.s_take rfl rfl ?_
   refine K.l_callV (Fx.cal rfl) rfl hE (K.pp [0, 0, 0] rfl) rfl rfl ?_
   simp only [Go.K.nmz]
   refine K.l_nil ?_
   refine X.onE hKK ?_
   first | refine K.d_skip rfl rfl rfl rfl ?_ | refine K.d_skipU rfl rfl rfl rfl rfl ?_ | refine K.d_puG rfl rfl rfl (fun _ _ => X.beql) rfl ?_
   rw [decide_eq_true (show (endQ L2 : Int) = thn by omega)]
   refine K.d_pu rfl (fun _ _ => X.pk) rfl ?_
   refine K.d_pu rfl (fun _ _ => X.mv) rfl ?_
   first | refine K.d_skip rfl rfl rfl rfl ?_ | refine K.d_skipU rfl rfl rfl rfl rfl ?_ | refine K.d_puG rfl rfl rfl (fun _ _ => X.mv) rfl ?_
   first | refine K.d_skip rfl rfl rfl rfl ?_ | refine K.d_skipU rfl rfl rfl rfl rfl ?_ | refine K.d_puG rfl rfl rfl (fun _ _ => X.mv) rfl ?_
   first | refine K.d_skip rfl rfl rfl rfl ?_ | refine K.d_skipU rfl rfl rfl rfl rfl ?_ | refine K.d_puG rfl rfl rfl (fun _ _ => X.nc) rfl ?_
   first | refine K.d_skip rfl rfl rfl rfl ?_ | refine K.d_skipU rfl rfl rfl rfl rfl ?_ | refine K.d_puG rfl rfl rfl (fun _ _ => X.fa) rfl ?_
   first | refine K.d_skipS rfl rfl rfl rfl ?_ | refine K.d_skipUS rfl rfl rfl rfl rfl ?_ | refine K.d_stG rfl rfl rfl X.ld rfl ?_
   refine K.d_on rfl (fun KK hKK => ?_)
   refine K.s_take rfl rfl ?_
   refine K.l_callV (Fx.cal rfl) rfl hK (K.pp [0, 0, 0] rfl) rfl rfl ?_
   simp only [Go.K.nmz]
   refine K.l_nil ?_
   refine X.onE hKK ?_
   first | refine K.d_skip rfl rfl rfl rfl ?_ | refine K.d_skipU rfl rfl rfl rfl rfl ?_ | refine K.d_puG rfl rfl rfl (fun _ _ => X.beql) rfl ?_
   rw [decide_eq_true (show (L2.m.kept : Int) = nxt by omega)]
   refine K.d_pu rfl (fun _ _ => X.pk) rfl ?_
   refine K.d_nil ?_
   (repeat' first | refine X.rq ?_ | refine X.rc ?_ ?_ <;> intro hc <;> try omega)
   have hr0 : Run D2 L2 [] 0 := by
    rcases hcase with ⟨j, q1, q2, q3, q4, _⟩ | ⟨y, _, _, q3, _⟩
    ·have hj0 : j = 0 := by
      have := congrArg List.length q3
      rw [found_len, List.length_take, ← hfl2, hz] at this
      omega
     subst hj0
     exact q4
    ·exact q3
   have hn2 : L2.m.n = n := by
    rcases hcase with ⟨j, _, _, _, _, q5, _⟩ | ⟨y, _, _, _, q5, _⟩
    ·exact q5
    ·exact q5
   subst hb1 hk1
   refine X.drawJ ([blk p 34 (lgV d W L2)]) [] (.pu 0 (.pu 1 (.pu 2 (.pu 3 (.pu 4 (.pu 5 (.pu 6 (.pu 7 (.pu 9 (.pu 10 (.pu 11 (.alt 8 (.on 12 (.pu 13 (.pu 14 (.on 15 (.pu 16 (.pu 17 (.on 18 (.pu 19 (.pu 20 (.on 21 (.pu 22 (.pu 23 (.on 24 (.pu 25 (.pu 26 (.on 27 .nil)))))))))))))))) (.on 12 (.on 8 (.pu 13 (.pu 14 (.on 15 (.pu 16 (.pu 17 (.on 18 (.pu 19 (.pu 20 (.on 21 (.pu 22 (.pu 23 (.on 24 (.pu 25 (.pu 26 (.on 27 .nil))))))))))))))))))))))))))))) (fun _ : Unit => [(0, pv x)]) (fun _ => h2) (fun _ => blk p 34 (lgV d W L2) :: W.sA :: startsA W L2 :: blk d 109 (dkV M2 D2) :: keptA M2 D2 :: cacheA M2 D2 :: blk x 64 [dv d, pv p, .slice none 0 0, .int .i64 0, .int .u64 (L2.m.base : Int), .int .u32 L2.m.kept, .bool false, .int .u64 (L2.m.base : Int), .int .u32 L2.m.kept] :: bufA 45 15 a rs.length k es.flatten :: F) ?_ ?_
   ·refine K.d_pu rfl (fun _ _ => X.mv) rfl ?_
    refine K.d_pu rfl (fun _ _ => X.mv) rfl ?_
    refine K.d_pu rfl (fun _ _ => X.mv) rfl ?_
    refine K.d_pu rfl (fun _ _ => X.mv) rfl ?_
    refine K.d_pu rfl (fun _ _ => X.mv) rfl ?_
    refine K.d_pu rfl (fun _ _ => X.mv) rfl ?_
    refine K.d_pu rfl (fun _ _ => X.nc) rfl ?_
    refine K.d_pu rfl (fun _ _ => X.fa) rfl ?_
    refine K.d_pu rfl (fun _ _ => X.mv) rfl ?_
    refine K.d_pu rfl (fun _ _ => X.nc) rfl ?_
    refine K.d_pu rfl (fun _ _ => X.fa) rfl ?_
    refine K.d_alt ?_ ?_
    ·refine K.d_on rfl (fun KK hKK => ?_)
     refine K.s_pure (K.p_load (v := .int .u64 (L2.m.base : Int)) (Fx.agg rfl) rfl (K.cel_own 6 rfl rfl)) rfl ?_
     refine K.l_nil ?_
     refine X.onE hKK ?_
     refine K.d_on rfl (fun KK hKK => ?_)
     refine K.s_pure (K.p_load (v := .int .u32 L2.m.kept) (Fx.agg rfl) rfl (K.cel_own 6 rfl rfl)) rfl ?_
     refine K.l_nil ?_
     refine X.onE hKK ?_
     refine K.d_pu rfl (fun _ _ => X.nc) rfl ?_
     refine K.d_pu rfl (fun _ _ => X.fa) rfl ?_
     refine K.d_on rfl (fun KK hKK => ?_)
     refine X.sto ?_
     simp only [Go.K.nmz]
     refine K.l_nil ?_
     refine X.onE hKK ?_
     refine K.d_pu rfl (fun _ _ => X.nc) rfl ?_
     refine K.d_pu rfl (fun _ _ => X.fa) rfl ?_
     refine K.d_on rfl (fun KK hKK => ?_)
     refine X.sto ?_
     simp only [Go.K.nmz]
     refine K.l_nil ?_
     refine X.onE hKK ?_
     refine K.d_pu rfl (fun _ _ => X.nc) rfl ?_
     refine K.d_pu rfl (fun _ _ => X.fa) rfl ?_
     refine K.d_on rfl (fun KK hKK => ?_)
     refine X.sto ?_
     simp only [Go.K.nmz]
     refine K.l_nil ?_
     refine X.onE hKK ?_
     refine K.d_pu rfl (fun _ _ => X.nc) rfl ?_
     refine K.d_pu rfl (fun _ _ => X.fa) rfl ?_
     refine K.d_on rfl (fun KK hKK => ?_)
     refine X.sto ?_
     simp only [Go.K.nmz]
     refine K.l_nil ?_
     refine X.onE hKK ?_
     refine K.d_pu rfl (fun _ _ => X.nc) rfl ?_
     refine K.d_pu rfl (fun _ _ => X.fa) rfl ?_
     refine K.d_on rfl (fun KK hKK => ?_)
     refine X.sto ?_
     simp only [Go.K.nmz]
     refine K.l_nil ?_
     refine X.onE hKK ?_
     refine K.d_nil ?_
     exact K.joined (()) (by repeat (first | exact K.Sub.nil _ | refine K.Sub.cons rfl ?_)) rfl rfl
    refine K.d_on rfl (fun KK hKK => ?_)
    refine K.s_pure (K.p_load (v := .int .u32 L2.m.kept) (Fx.agg rfl) rfl (K.cel_own 6 rfl rfl)) rfl ?_
    refine K.l_nil ?_
    refine X.onE hKK ?_
    refine K.d_on rfl (fun KK hKK => ?_)
    refine K.s_pure (K.p_load (v := .int .u64 (L2.m.base : Int)) (Fx.agg rfl) rfl (K.cel_own 6 rfl rfl)) rfl ?_
    refine K.l_nil ?_
    refine X.onE hKK ?_
    refine K.d_pu rfl (fun _ _ => X.nc) rfl ?_
    refine K.d_pu rfl (fun _ _ => X.fa) rfl ?_
    refine K.d_on rfl (fun KK hKK => ?_)
    refine X.sto ?_
    simp only [Go.K.nmz]
    refine K.l_nil ?_
    refine X.onE hKK ?_
    refine K.d_pu rfl (fun _ _ => X.nc) rfl ?_
    refine K.d_pu rfl (fun _ _ => X.fa) rfl ?_
    refine K.d_on rfl (fun KK hKK => ?_)
    refine X.sto ?_
    simp only [Go.K.nmz]
    refine K.l_nil ?_
    refine X.onE hKK ?_
    refine K.d_pu rfl (fun _ _ => X.nc) rfl ?_
    refine K.d_pu rfl (fun _ _ => X.fa) rfl ?_
    refine K.d_on rfl (fun KK hKK => ?_)
    refine X.sto ?_
    simp only [Go.K.nmz]
    refine K.l_nil ?_
    refine X.onE hKK ?_
    refine K.d_pu rfl (fun _ _ => X.nc) rfl ?_
    refine K.d_pu rfl (fun _ _ => X.fa) rfl ?_
    refine K.d_on rfl (fun KK hKK => ?_)
    refine X.sto ?_
    simp only [Go.K.nmz]
    refine K.l_nil ?_
    refine X.onE hKK ?_
    refine K.d_pu rfl (fun _ _ => X.nc) rfl ?_
    refine K.d_pu rfl (fun _ _ => X.fa) rfl ?_
    refine K.d_on rfl (fun KK hKK => ?_)
    refine X.sto ?_
    simp only [Go.K.nmz]
    refine K.l_nil ?_
    refine X.onE hKK ?_
    refine K.d_nil ?_
    exact K.joined (()) (by repeat (first | exact K.Sub.nil _ | refine K.Sub.cons rfl ?_)) rfl rfl
   refine fun _ => ?_
   (repeat' first | refine X.rq ?_ | refine X.rc ?_ ?_ <;> intro hc <;> try omega)
   refine K.AT.nilBuf 45 15 ?_
   refine K.AT.perm (K.pp [8, 7, 0] rfl) ?_
   exact K.doneC (vs := [.bool true]) (by first | exact Or.inl rfl | exact Or.inr rfl) (.tmp rfl .nil) le2 (D := [_]) (H' := [_, _, _, _, _, _, _, _]) rfl ⟨rfl, p, ⟨none, 0, [], _, _⟩, W, M2, D2, L2, [], ⟨hr0, ⟨rfl, fun j c x hc => by simp at hc⟩, hst, hth, hnx⟩, o3 hon, o2, hn2, rfl⟩
 ·rintro ⟨⟩ ⟨j, q1, q2, q3, q4, q5, q6, q7⟩
  have hflj : fl = j := by rw [hfl2, q3, found_len, List.length_take]; omega
  subst hflj
  have hfget : ∀ i, i < fl → ∃ c e y, fe[i]? = some c ∧ es[i]? = some e ∧ RecC h2 c y ∧ RecC h2 e y := fun i hi => by
   have hy1 : (foundQ base rs)[i]? = some ((foundQ base rs)[i]'(by rw [found_len]; omega)) := List.getElem?_eq_getElem (by rw [found_len]; omega)
   generalize (foundQ base rs)[i]'(by rw [found_len]; omega) = y at hy1
   have hc1 : fe[i]? = some (fe[i]'(by omega)) := List.getElem?_eq_getElem (by omega)
   have he1 : es[i]? = some (es[i]'(by omega)) := List.getElem?_eq_getElem (by omega)
   refine ⟨_, _, y, hc1, he1, hfr i _ y hc1 ?_, (hes.2 i _ y he1 hy1).le le2⟩
   rw [q3, found_take, List.getElem?_take_of_lt hi]; exact hy1
  (repeat' first | refine X.rq ?_ | refine X.rc ?_ ?_ <;> intro hc <;> try omega)
  refine X.draw ([blk x 64 [dv d, pv p, bufV a rs.length k, .int .i64 m, .int .u64 (base : Int), .int .u32 kept, .bool brk.isSome, .int .u64 (thn : Int), .int .u32 nxt]]) [] (.pu 0 (.pu 1 (.pu 2 (.pu 3 (.pu 4 (.st 5 (.pu 6 (.pu 7 (.pu 8 (.pu 9 (.pu 10 (.pu 11 (.pu 12 (.st 13 (.st 14 (.pu 15 (.pu 16 (.pu 17 (.pu 18 (.pu 20 (.pu 21 (.pu 22 (.st 23 (.on 19 (.pu 24 (.pu 25 (.pu 26 (.pu 27 (.pu 29 (.pu 30 (.pu 31 (.st 32 (.on 28 (.pu 33 (.pu 34 .nil))))))))))))))))))))))))))))))))))) ?_ (hQ := by repeat (first | with_reducible refine K.NoPanic.then ?_ | with_reducible refine K.NoPanic.inBlock ?_ | with_reducible exact K.post_noPanic _ _ | exact K.post_noPanic _ _ | exact K.QN_noPanic | exact K.postS_noPanic | exact K.postX_noPanic | exact K.RPX_noPanic))
  refine K.d_pu rfl (fun _ _ => X.mv) rfl ?_
  refine K.d_pu rfl (fun _ _ => X.len) rfl ?_
  refine K.d_pu rfl (fun _ _ => X.mv) rfl ?_
  refine K.d_pu rfl (fun _ _ => X.nc) rfl ?_
  refine K.d_pu rfl (fun _ _ => X.fa) rfl ?_
  refine K.d_st rfl X.ld rfl ?_
  refine K.d_pu rfl (fun _ _ => X.len) rfl ?_
  refine K.d_pu rfl (fun _ _ => X.bgtr) rfl ?_
  rw [decide_eq_false (show ¬ ((rs.length : Int) < fl) by omega)]
  refine K.d_pu rfl (fun _ _ => X.mv) rfl ?_
  first | refine K.d_skip rfl rfl rfl rfl ?_ | refine K.d_skipU rfl rfl rfl rfl rfl ?_ | refine K.d_puG rfl rfl rfl (fun _ _ => X.mv) rfl ?_
  first | refine K.d_skip rfl rfl rfl rfl ?_ | refine K.d_skipU rfl rfl rfl rfl rfl ?_ | refine K.d_puG rfl rfl rfl (fun _ _ => X.len) rfl ?_
  first | refine K.d_skip rfl rfl rfl rfl ?_ | refine K.d_skipU rfl rfl rfl rfl rfl ?_ | refine K.d_puG rfl rfl rfl (fun _ _ => X.mv) rfl ?_
  first | refine K.d_skip rfl rfl rfl rfl ?_ | refine K.d_skipU rfl rfl rfl rfl rfl ?_ | refine K.d_puG rfl rfl rfl (fun _ _ => X.nc) rfl ?_
  first | refine K.d_skipS rfl rfl rfl rfl ?_ | refine K.d_skipUS rfl rfl rfl rfl rfl ?_ | refine K.d_stG rfl rfl rfl X.fa rfl ?_
  first | refine K.d_skipS rfl rfl rfl rfl ?_ | refine K.d_skipUS rfl rfl rfl rfl rfl ?_ | refine K.d_stG rfl rfl rfl X.ld rfl ?_
  first | refine K.d_skip rfl rfl rfl rfl ?_ | refine K.d_skipU rfl rfl rfl rfl rfl ?_ | refine K.d_puG rfl rfl rfl (fun _ _ => X.blss) rfl ?_
  rw [decide_eq_false (show ¬ ((fl : Int) < m) by omega)]
  refine K.d_pu rfl (fun _ _ => X.pk) rfl ?_
  refine K.d_pu rfl (fun _ _ => X.mv) rfl ?_
  first | refine K.d_skip rfl rfl rfl rfl ?_ | refine K.d_skipU rfl rfl rfl rfl rfl ?_ | refine K.d_puG rfl rfl rfl (fun _ _ => X.mv) rfl ?_
  first | refine K.d_skip rfl rfl rfl rfl ?_ | refine K.d_skipU rfl rfl rfl rfl rfl ?_ | refine K.d_puG rfl rfl rfl (fun _ _ => X.mv) rfl ?_
  first | refine K.d_skip rfl rfl rfl rfl ?_ | refine K.d_skipU rfl rfl rfl rfl rfl ?_ | refine K.d_puG rfl rfl rfl (fun _ _ => X.nc) rfl ?_
  first | refine K.d_skip rfl rfl rfl rfl ?_ | refine K.d_skipU rfl rfl rfl rfl rfl ?_ | refine K.d_puG rfl rfl rfl (fun _ _ => X.fa) rfl ?_
  first | refine K.d_skipS rfl rfl rfl rfl ?_ | refine K.d_skipUS rfl rfl rfl rfl rfl ?_ | refine K.d_stG rfl rfl rfl X.ld rfl ?_
  refine K.d_on rfl (fun KK hKK => ?_)
  refine K.s_take rfl rfl ?_
  refine K.l_callV (Fx.cal rfl) rfl hB (K.pp [0, 0, 0] rfl) rfl rfl ?_
  simp only [Go.K.nmz]
  refine K.l_nil ?_
  refine X.onE hKK ?_
  first | refine K.d_skip rfl rfl rfl rfl ?_ | refine K.d_skipU rfl rfl rfl rfl rfl ?_ | refine K.d_puG rfl rfl rfl (fun _ _ => X.bneq) rfl ?_
  rw [decide_eq_false (show ¬ ((L2.m.base : Int) ≠ base) by omega)]
  refine K.d_pu rfl (fun _ _ => X.pk) rfl ?_
  refine K.d_pu rfl (fun _ _ => X.mv) rfl ?_
  first | refine K.d_skip rfl rfl rfl rfl ?_ | refine K.d_skipU rfl rfl rfl rfl rfl ?_ | refine K.d_puG rfl rfl rfl (fun _ _ => X.mv) rfl ?_
  first | refine K.d_skip rfl rfl rfl rfl ?_ | refine K.d_skipU rfl rfl rfl rfl rfl ?_ | refine K.d_puG rfl rfl rfl (fun _ _ => X.mv) rfl ?_
  first | refine K.d_skip rfl rfl rfl rfl ?_ | refine K.d_skipU rfl rfl rfl rfl rfl ?_ | refine K.d_puG rfl rfl rfl (fun _ _ => X.nc) rfl ?_
  first | refine K.d_skip rfl rfl rfl rfl ?_ | refine K.d_skipU rfl rfl rfl rfl rfl ?_ | refine K.d_puG rfl rfl rfl (fun _ _ => X.fa) rfl ?_
  first | refine K.d_skipS rfl rfl rfl rfl ?_ | refine K.d_skipUS rfl rfl rfl rfl rfl ?_ | refine K.d_stG rfl rfl rfl X.ld rfl ?_
  refine K.d_on rfl (fun KK hKK => ?_)
  refine K.s_take rfl rfl ?_
  refine K.l_callV (Fx.cal rfl) rfl hK (K.pp [0, 0, 0] rfl) rfl rfl ?_
  simp only [Go.K.nmz]
  refine K.l_nil ?_
  refine X.onE hKK ?_
  first | refine K.d_skip rfl rfl rfl rfl ?_ | refine K.d_skipU rfl rfl rfl rfl rfl ?_ | refine K.d_puG rfl rfl rfl (fun _ _ => X.bneq) rfl ?_
  rw [decide_eq_false (show ¬ ((L2.m.kept : Int) ≠ kept) by omega)]
  refine K.d_pu rfl (fun _ _ => X.pk) rfl ?_
  refine K.d_nil ?_
  (repeat' first | refine X.rq ?_ | refine X.rc ?_ ?_ <;> intro hc <;> try omega)
  refine K.c_loop (σ := Nat) (fun i => [(0, pv x), (3, pv p), (4, .slice a4 fl c4), (6, .int .i64 i)]) (fun _ => h2) (fun _ => blk p 34 (lgV d W L2) :: W.sA :: startsA W L2 :: blk d 109 (dkV M2 D2) :: keptA M2 D2 :: cacheA M2 D2 :: blk x 64 [dv d, pv p, bufV a rs.length k, .int .i64 m, .int .u64 (base : Int), .int .u32 kept, .bool brk.isSome, .int .u64 (thn : Int), .int .u32 nxt] :: bufA 45 15 a rs.length k es.flatten :: F)
   (fun i => i ≤ fl) (fun i => fl - i) 0 (Nat.zero_le _) (by repeat (first | exact K.Sub.nil _ | refine K.Sub.cons rfl ?_)) rfl rfl ?_
  rintro i hi KL hKL
  by_cases hil : i < fl
  ·obtain ⟨c, e, y, hc1, he1, hxc, hxe⟩ := hfget i hil
   have hcl := rec_len hxc
   have hel := rec_len hxe
   have hsame := SameR h2 c e y y hxc hxe
   rw [decide_eq_true (rfl : z0 y = z0 y)] at hsame
   have hc0 : fe[((i : Nat) : Int).toNat]? = some c := by rw [Int.toNat_natCast]; exact hc1
   have hlsn : c[1]? = some (.int .u64 y.lsn) := by
    obtain ⟨_, _, _, _, _, _, _, _, _, ec, _⟩ := hxc.cells
    rw [ec]; rfl
   have hlse : e[1]? = some (.int .u64 y.lsn) := by
    obtain ⟨_, _, _, _, _, _, _, _, _, ec, _⟩ := hxe.cells
    rw [ec]; rfl
   (repeat' first | refine X.rq ?_ | refine X.rc ?_ ?_ <;> intro hc <;> try omega)
   refine K.WC.someBuf 7 rfl (by omega) (fun b hb9 => ?_)
   subst hb9
   refine X.draw ([blk x 64 [dv d, pv p, bufV (some b) rs.length k, .int .i64 m, .int .u64 (base : Int), .int .u32 kept, .bool brk.isSome, .int .u64 (thn : Int), .int .u32 nxt], bufA 45 15 (some b) rs.length k es.flatten]) [] (.pu 0 (.pu 1 (.pu 5 (.pu 6 (.pu 7 (.pu 9 (.st 2 (.pu 3 (.st 4 (.st 8 (.pu 10 (.pu 11 (.st 12 (.pu 13 (.pu 14 (.pu 15 (.pu 16 (.pu 19 (.pu 20 (.pu 21 (.pu 23 (.st 17 (.st 18 (.st 22 (.pu 24 (.st 25 (.on 26 (.pu 27 (.pu 28 .nil))))))))))))))))))))))))))))) ?_ (hQ := by repeat (first | with_reducible refine K.NoPanic.then ?_ | with_reducible refine K.NoPanic.inBlock ?_ | with_reducible exact K.post_noPanic _ _ | exact K.post_noPanic _ _ | exact K.QN_noPanic | exact K.postS_noPanic | exact K.postX_noPanic | exact K.RPX_noPanic))
   refine K.d_pu rfl (fun _ _ => X.mv) rfl ?_
   refine K.d_pu rfl (fun _ _ => X.mv) rfl ?_
   refine K.d_pu rfl (fun _ _ => X.mv) rfl ?_
   refine K.d_pu rfl (fun _ _ => X.nc) rfl ?_
   refine K.d_pu rfl (fun _ _ => X.fa) rfl ?_
   refine K.d_pu rfl (fun _ _ => X.mv) rfl ?_
   refine K.d_stE rfl (K.p_indexL hfs (Fx.und rfl) (Fx.sz rfl) rfl rfl (by omega) hc0) rfl ?_
   rintro v2 ⟨b2, o2, rfl, hcel2⟩
   refine K.d_pu rfl (fun _ _ => X.fa) rfl ?_
   refine K.d_st rfl (K.p_load (v := .int .u64 y.lsn) (Fx.agg rfl) rfl (Cels.get (Cels.up hcel2) 1 _ hlsn)) rfl ?_
   refine K.d_st rfl X.ld rfl ?_
   refine K.d_pu rfl (fun _ _ => X.ia) rfl ?_
   refine K.d_pu rfl (fun _ _ => X.fa) rfl ?_
   refine K.d_st rfl (K.p_load (v := .int .u64 y.lsn) (Fx.agg rfl) rfl (by rw [Int.toNat_natCast, Nat.zero_add]; exact K.cel_rowZ 1 rfl hes15 he1 hlse)) rfl ?_
   refine K.d_pu rfl (fun _ _ => X.bneq) rfl ?_
   rw [decide_eq_false (fun e => e rfl : ¬ ((y.lsn : Int) ≠ (y.lsn : Int)))]
   refine K.d_pu rfl (fun _ _ => X.mv) rfl ?_
   first | refine K.d_skip rfl rfl rfl rfl ?_ | refine K.d_skipU rfl rfl rfl rfl rfl ?_ | refine K.d_puG rfl rfl rfl (fun _ _ => X.mv) rfl ?_
   first | refine K.d_skip rfl rfl rfl rfl ?_ | refine K.d_skipU rfl rfl rfl rfl rfl ?_ | refine K.d_puG rfl rfl rfl (fun _ _ => X.mv) rfl ?_
   first | refine K.d_skip rfl rfl rfl rfl ?_ | refine K.d_skipU rfl rfl rfl rfl rfl ?_ | refine K.d_puG rfl rfl rfl (fun _ _ => X.mv) rfl ?_
   first | refine K.d_skip rfl rfl rfl rfl ?_ | refine K.d_skipU rfl rfl rfl rfl rfl ?_ | refine K.d_puG rfl rfl rfl (fun _ _ => X.nc) rfl ?_
   first | refine K.d_skip rfl rfl rfl rfl ?_ | refine K.d_skipU rfl rfl rfl rfl rfl ?_ | refine K.d_puG rfl rfl rfl (fun _ _ => X.fa) rfl ?_
   first | refine K.d_skip rfl rfl rfl rfl ?_ | refine K.d_skipU rfl rfl rfl rfl rfl ?_ | refine K.d_puG rfl rfl rfl (fun _ _ => X.mv) rfl ?_
   refine K.d_stGE rfl rfl rfl (K.p_indexL hfs (Fx.und rfl) (Fx.sz rfl) rfl rfl (by omega) hc0) rfl ?_
   rintro v17 ⟨b5, o5, rfl, hcel5⟩
   refine K.d_stG rfl rfl rfl (K.p_loadM (vs := c) (Fx.agg rfl) rfl (Cels.up hcel5) (Fx.sz rfl) hcl) rfl ?_
   first | refine K.d_skipS rfl rfl rfl rfl ?_ | refine K.d_skipUS rfl rfl rfl rfl rfl ?_ | refine K.d_stG rfl rfl rfl X.ld rfl ?_
   first | refine K.d_skip rfl rfl rfl rfl ?_ | refine K.d_skipU rfl rfl rfl rfl rfl ?_ | refine K.d_puG rfl rfl rfl (fun _ _ => X.ia) rfl ?_
   refine K.d_stG rfl rfl rfl (K.p_loadM (vs := e) (Fx.agg rfl) rfl (by rw [Int.toNat_natCast, Nat.zero_add]; exact K.cels_rowZ 1 rfl hes15 he1) (Fx.sz rfl) hel) rfl ?_
   refine K.d_on rfl (fun KK hKK => ?_)
   refine K.s_take rfl rfl ?_
   refine K.l_callV (Fx.cal rfl) rfl hsame (K.pp [] rfl) rfl rfl ?_
   refine K.l_nil ?_
   refine X.onE hKK ?_
   first | refine K.d_skip rfl rfl rfl rfl ?_ | refine K.d_skipU rfl rfl rfl rfl rfl ?_ | refine K.d_puG rfl rfl rfl (fun _ _ => X.nt) rfl ?_
   refine K.d_pu rfl (fun _ _ => X.pk) rfl ?_
   refine K.d_nil ?_
   (repeat' first | refine X.rq ?_ | refine X.rc ?_ ?_ <;> intro hc <;> try omega)
   refine K.a_round hKL (i + 1) (by omega) (by repeat (first | exact K.Sub.nil _ | refine K.Sub.cons rfl ?_)) rfl rfl (by omega)
  ·clear hKL
   obtain rfl : i = fl := by omega
   have hDu := LDurable h2 p d W L2
   have hde : L2.durable = endQ L2 := by
    unfold endQ
    rw [q4.dur, q4.str, List.take_take, Nat.min_self]; rfl
   rw [← hde] at hE
   unfold lgA n64 at hDu
   (repeat' first | refine X.rq ?_ | refine X.rc ?_ ?_ <;> intro hc <;> try omega)
   refine K.WL.roomBufA 7 rfl (fun hroom => ?_)
   refine K.s_pure (K.p_sliceU (q := i) (Fx.und rfl) (Fx.sz rfl) rfl rfl rfl (by omega)) rfl ?_
   refine K.WL.perm (K.pp [7] rfl) ?_
   refine K.WL.shrink (j := i) (by omega) ?_
   simp only [List.cons_append, List.nil_append, List.eraseIdx_cons_zero, List.eraseIdx_cons_succ]
   rw [flat_take15 es i hes15]
   obtain ⟨rs2, hrs2⟩ : ∃ rs2, rs2 = rs.take i := ⟨_, rfl⟩
   have hl9 : i = rs2.length := by rw [hrs2, List.length_take]; omega
   have hes2 := rows_take hes i
   rw [← found_take, ← hrs2, ← q6] at hes2
   rw [← hrs2] at q4
   clear hrs2 hfl2 q3 hfget
   subst hl9
   (repeat' first | refine X.rq ?_ | refine X.rc ?_ ?_ <;> intro hc <;> try omega)
   refine X.sto ?_
   simp only [Go.K.nmz]
   (repeat' first | refine X.rq ?_ | refine X.rc ?_ ?_ <;> intro hc <;> try omega)
   refine X.sto ?_
   simp only [Go.K.nmz]
   (repeat' first | refine X.rq ?_ | refine X.rc ?_ ?_ <;> intro hc <;> try omega)
   refine X.sto ?_
   simp only [Go.K.nmz]
   (repeat' first | refine X.rq ?_ | refine X.rc ?_ ?_ <;> intro hc <;> try omega)
   refine K.l_callV (Fx.cal rfl) rfl hDu (K.pp [1, 1, 1] rfl) rfl rfl ?_
   simp only [Go.K.nmz]
   (repeat' first | refine X.rq ?_ | refine X.rc ?_ ?_ <;> intro hc <;> try omega)
   refine K.l_callV (Fx.cal rfl) rfl hE (K.pp [0, 0, 0] rfl) rfl rfl ?_
   simp only [Go.K.nmz]
   (repeat' first | refine X.rq ?_ | refine X.rc ?_ ?_ <;> intro hc <;> try omega)
   rw [decide_eq_true (show (L2.durable : Int) = L2.durable from rfl)]
   refine K.AT.perm (K.pp [7, 3] rfl) ?_
   exact K.done (vs := [.bool true]) (by first | exact Or.inl rfl | exact Or.inr rfl) rfl le2 (H' := [_, _, _, _, _, _, _, _]) rfl ⟨rfl, p, ⟨a, k, es.take rs2.length, thn, nxt⟩, W, M2, D2, L2, rs2, ⟨q4, rows_le2 hes2 le2, hst, hth, hnx⟩, o3 hon, o2, q5, by unfold liveA lfA lfV; rw [q6, q7]; rfl⟩
end Go.Proofs.YtmcdaegaopfihaaGreat.Wl
