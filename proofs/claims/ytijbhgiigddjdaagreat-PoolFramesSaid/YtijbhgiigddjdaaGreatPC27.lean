/-
 A page read of bytes, by the code. Conditions: each theorem's own.
-/
import Derived.Test.YtijbhgiigddjdaaGreatPC26
set_option linter.unusedVariables false
set_option linter.unusedSimpArgs false
set_option maxRecDepth 10000
set_option maxHeartbeats 16000000
namespace Go.Proofs.YtijbhgiigddjdaaGreat.Pg
open Go.K Cc Rb

theorem D_U8 (h : Base) (s : Option RS) (r : Rt) (hr : Rd h s r.1 r.2) (hl : r.2.length ≤ big) : Tr Tryz.prog 73 [rv s] h [rA s] (RPost h s (nxt 1 r).1 (nxt 1 r).2 (· = .int .u8 (num 1 r : Nat))) := R_U8 h s r.1 r.2 hr hl
theorem D_U16 (h : Base) (s : Option RS) (r : Rt) (hr : Rd h s r.1 r.2) (hl : r.2.length ≤ big) : Tr Tryz.prog 76 [rv s] h [rA s] (RPost h s (nxt 2 r).1 (nxt 2 r).2 (· = .int .u16 (num 2 r : Nat))) := R_U16 h s r.1 r.2 hr hl
theorem D_U32 (h : Base) (s : Option RS) (r : Rt) (hr : Rd h s r.1 r.2) (hl : r.2.length ≤ big) : Tr Tryz.prog 72 [rv s] h [rA s] (RPost h s (nxt 4 r).1 (nxt 4 r).2 (· = .int .u32 (num 4 r : Nat))) := R_U32 h s r.1 r.2 hr hl
theorem D_U64 (h : Base) (s : Option RS) (r : Rt) (hr : Rd h s r.1 r.2) (hl : r.2.length ≤ big) : Tr Tryz.prog 74 [rv s] h [rA s] (RPost h s (nxt 8 r).1 (nxt 8 r).2 (· = .int .u64 (num 8 r : Nat))) := R_U64 h s r.1 r.2 hr hl
theorem nxt_len (m : Nat) (r : Rt) : (nxt m r).2.length ≤ r.2.length := by
 simp only [nxt, getRem]
 split
 ·rw [List.length_drop]; omega
 ·exact Nat.le_refl _
theorem tkRem_len (ok : Bool) (rem : List UInt8) (m : Int) : (tkRem ok rem m).length ≤ rem.length := by
 unfold tkRem
 split
 ·rw [List.length_drop]; omega
 ·exact Nat.le_refl _
theorem cellsR_no (n : Nat) (rem : List UInt8) : cellsR n (false, rem) = ([], (false, rem)) := by cases n <;> rfl
theorem cellQ_len (r : Rt) : (cellQ r).2.2.length ≤ r.2.length := by
 unfold cellQ
 split
 ·exact nxt_len 2 r
 ·exact Nat.le_trans (tkRem_len _ _ _) (Nat.le_trans (nxt_len 4 _) (nxt_len 2 _))
def DecV (r : Pag × Int) (u : Value) (H' : List Asrt) : Prop := ∃ c cap l, r.1.cells = l.map OC.cell ∧ okO l ∧ (∀ x ∈ l, x.data.length ≤ 65535) ∧ l.length ≤ 255 ∧ u = .tuple #[.agg (cP r.1 (bufV c l.length cap)).toArray, .int .i64 r.2] ∧ H' = pgA c cap l
theorem u8_zero {x : UInt8} (h : x.toNat = 0) : x = 0 := UInt8.toNat_inj.1 (h.trans rfl)
theorem PDecode1 (h : Base) (x : UInt8) : TrV Tryz.prog 82 [.int .u8 (x.toNat : Int)] h [] (.bool (decide (x ≠ 0))) [] := by
 refine K.en Tryz.func82 fun F => ?_
 simp only [List.nil_append]
 (repeat' first | refine X.rq ?_ | refine X.rc ?_ ?_ <;> intro hc <;> try omega)
 rw [show decide ((x.toNat : Int) ≠ 0) = decide (x ≠ 0) from decide_eq_decide.2 ⟨fun h e => h (by rw [e]; rfl), fun h e => h (u8_zero (by omega))⟩]
 refine K.dl rfl (H' := []) rfl ⟨rfl, rfl, rfl⟩
theorem IdxB (h : Base) (f : FuncId) (hcal : Callable Tryz.prog f) (v : Value) (l : List UInt8) (p : UInt8 → Bool) (hv : BV h v l) (hl : l.length ≤ 9223372036854775807)
  (hp : ∀ x : UInt8, TrV Tryz.prog f [.int .u8 (x.toNat : Int)] h [] (.bool (p x)) []) :
  Tr Tryz.prog 112 [v, .func (.func f) #[] #[]] h [] (fun u h' H' => ∃ i : Int, u = .int .i64 i ∧ decide (0 ≤ i) = l.any p ∧ h' = h ∧ H' = []) := by
 obtain ⟨ao, ca, rfl⟩ := hv.len
 refine K.en Tryz.func112 fun F => ?_
 simp only [List.nil_append]
 (repeat' first | refine X.rq ?_ | refine X.rc ?_ ?_ <;> intro hc <;> try omega)
 refine K.c_loop (σ := Nat) (fun j => [(0, .slice ao l.length ca), (1, .func (.func f) #[] #[]), (7, .int .i64 l.length), (8, .int .i64 j)]) (fun _ => h) (fun _ => F)
  (fun j => j ≤ l.length ∧ (l.take j).any p = false) (fun j => l.length - j) 0 ⟨Nat.zero_le _, rfl⟩ (by repeat (first | exact K.Sub.nil _ | refine K.Sub.cons rfl ?_)) rfl rfl ?_
 rintro j ⟨hj, hno⟩ KL hKL
 by_cases hjl : j < l.length
 ·have hc1 : l[j]? = some l[j] := List.getElem?_eq_getElem hjl
  have hc0 : l[((j : Nat) : Int).toNat]? = some l[j] := by rw [Int.toNat_natCast]; exact hc1
  generalize l[j] = c at hc0 hc1
  (repeat' first | refine X.rq ?_ | refine X.rc ?_ ?_ <;> intro hc <;> try omega)
  refine K.s_pureE (K.p_indexB hv (Fx.und rfl) (Fx.sz rfl) rfl rfl (by omega) hc0) rfl ?_
  rintro v2 ⟨b, o, rfl, hcel⟩
  refine K.s_pure (K.p_load (Fx.agg rfl) rfl (K.Cel.up hcel)) rfl ?_
  refine K.l_callF (vals := [.int .u8 (c.toNat : Int)]) hcal rfl rfl (hp c) (K.pp [] rfl) rfl ?_
  rintro u h' H' - ⟨rfl, e, rfl⟩
  obtain rfl := e.symm
  simp only [List.nil_append]
  cases hpc : p c with
  | true =>
   (repeat' first | refine X.rq ?_ | refine X.rc ?_ ?_ <;> intro hc <;> try omega)
   refine K.dl rfl (H' := []) rfl ⟨j, rfl, ?_, rfl, rfl⟩
   rw [List.any_eq_true.2 ⟨c, List.mem_of_getElem? hc1, hpc⟩]
   exact decide_eq_true (by omega)
  | false =>
   (repeat' first | refine X.rq ?_ | refine X.rc ?_ ?_ <;> intro hc <;> try omega)
   refine K.a_round hKL (j + 1) ⟨by omega, ?_⟩ (by repeat (first | exact K.Sub.nil _ | refine K.Sub.cons rfl ?_)) rfl rfl (by omega)
   rw [List.take_add_one, List.any_append, hno, hc1]
   simp [hpc]
 ·obtain rfl : j = l.length := by omega
  rw [List.take_length] at hno
  (repeat' first | refine X.rq ?_ | refine X.rc ?_ ?_ <;> intro hc <;> try omega)
  refine K.dl rfl (H' := []) rfl ⟨-1, rfl, ?_, rfl, rfl⟩
  rw [hno]
  exact decide_eq_false (by omega)
theorem CtnB (h : Base) (f : FuncId) (hcal : Callable Tryz.prog f) (v : Value) (l : List UInt8) (p : UInt8 → Bool) (hv : BV h v l) (hl : l.length ≤ 9223372036854775807)
  (hp : ∀ x : UInt8, TrV Tryz.prog f [.int .u8 (x.toNat : Int)] h [] (.bool (p x)) []) :
  TrV Tryz.prog 81 [v, .func (.func f) #[] #[]] h [] (.bool (l.any p)) [] := by
 refine K.en Tryz.func81 fun F => ?_
 simp only [List.nil_append]
 (repeat' first | refine X.rq ?_ | refine X.rc ?_ ?_ <;> intro hc <;> try omega)
 refine K.l_call (Fx.cal rfl) rfl (IdxB h f hcal v l p hv hl hp) (K.pp [] rfl) rfl ?_
 rintro u h' H' - ⟨i, rfl, hi, e, rfl⟩
 obtain rfl := e.symm
 rw [← hi]
 (repeat' first | refine X.rq ?_ | refine X.rc ?_ ?_ <;> intro hc <;> try omega)
 refine K.dl rfl (H' := []) rfl ⟨rfl, rfl, rfl⟩
theorem PDecode (h : Base) (v : Value) (b : List UInt8) (hb : BV h v b) (hl : b.length ≤ 140737488355328) :
  Tr Tryz.prog 39 [v] h [] (fun u h' H' => DecV (decQ b) u H') := by
 obtain ⟨ao, ca, rfl⟩ := hb.len
 have hbig : b.length ≤ big := by unfold big; omega
 refine K.en Tryz.func39 fun F => ?_
 simp only [List.nil_append]
 (repeat' first | refine X.rq ?_ | refine X.rc ?_ ?_ <;> intro hc <;> try omega)
 refine K.l_alloc (Fx.zr rfl) rfl rfl (fun B2 => ?_)
 (repeat' first | refine X.rq ?_ | refine X.rc ?_ ?_ <;> intro hc <;> try omega)
 refine K.l_call (Fx.cal rfl) rfl (NewReader h _ b [] hb.src hbig) (K.pp [] rfl) rfl ?_
 rintro u h1 H' le1 ⟨p1, sv1, rfl, hd, rfl⟩
 obtain ⟨s0, hs0⟩ : ∃ s, s = some (⟨p1, true, sv1, false⟩ : RS) := ⟨_, rfl⟩
 rw [← hs0] at hd ⊢
 have hrv : rv s0 = .pointer (some ⟨p1, 0, none⟩) := by rw [hs0]; rfl
 rw [hrv]
 (repeat' first | refine X.rq ?_ | refine X.rc ?_ ?_ <;> intro hc <;> try omega)
 refine K.l_call (vals := [rv s0]) (Fx.cal rfl) (by rw [hrv]; rfl) (D_U32 h1 s0 (true, b) hd hbig) (K.pp [0] rfl) rfl ?_
 rintro u h' H' - ⟨rfl, rfl, s1, sm1, hd1, rfl⟩
 have hrv1 := (same_val sm1).trans hrv
 obtain ⟨r1, e1⟩ : ∃ r, r = nxt 4 (true, b) := ⟨_, rfl⟩
 have g1 := nxt_len 4 (true, b)
 rw [← e1] at hd1 g1
 have g1 : r1.2.length ≤ big := Nat.le_trans g1 hbig
 (repeat' first | refine X.rq ?_ | refine X.rc ?_ ?_ <;> intro hc <;> try omega)
 refine K.l_call (vals := [rv s1]) (Fx.cal rfl) (by rw [hrv1]; rfl) (D_U8 h1 s1 r1 hd1 g1) (K.pp [0] rfl) rfl ?_
 rintro u h' H' - ⟨rfl, rfl, s2, sm2, hd2, rfl⟩
 have hrv2 := (same_val sm2).trans hrv1
 have n1 := num_lt 1 r1
 obtain ⟨r2, e2⟩ : ∃ r, r = nxt 1 r1 := ⟨_, rfl⟩
 have g2 := nxt_len 1 r1
 rw [← e2] at hd2 g2
 have g2 : r2.2.length ≤ big := Nat.le_trans g2 g1
 (repeat' first | refine X.rq ?_ | refine X.rc ?_ ?_ <;> intro hc <;> try omega)
 refine K.l_alloc (Fx.zr rfl) rfl rfl (fun B6 => ?_)
 refine X.stw ?_
 simp only [Go.K.nmz]
 (repeat' first | refine X.rq ?_ | refine X.rc ?_ ?_ <;> intro hc <;> try omega)
 refine K.l_call (vals := [rv s2]) (Fx.cal rfl) (by rw [hrv2]; rfl) (D_U8 h1 s2 r2 hd2 g2) (K.pp [1] rfl) rfl ?_
 rintro u h' H' - ⟨rfl, rfl, s3, sm3, hd3, rfl⟩
 have hrv3 := (same_val sm3).trans hrv2
 have n2 := num_lt 1 r2
 obtain ⟨r3, e3⟩ : ∃ r, r = nxt 1 r2 := ⟨_, rfl⟩
 have g3 := nxt_len 1 r2
 rw [← e3] at hd3 g3
 have g3 : r3.2.length ≤ big := Nat.le_trans g3 g2
 (repeat' first | refine X.rq ?_ | refine X.rc ?_ ?_ <;> intro hc <;> try omega)
 refine K.l_call (vals := [rv s3]) (Fx.cal rfl) (by rw [hrv3]; rfl) (D_U64 h1 s3 r3 hd3 g3) (K.pp [0] rfl) rfl ?_
 rintro u h' H' - ⟨rfl, rfl, s4, sm4, hd4, rfl⟩
 have hrv4 := (same_val sm4).trans hrv3
 have n3 := num_lt 8 r3
 obtain ⟨r4, e4⟩ : ∃ r, r = nxt 8 r3 := ⟨_, rfl⟩
 have g4 := nxt_len 8 r3
 rw [← e4] at hd4 g4
 have g4 : r4.2.length ≤ big := Nat.le_trans g4 g3
 (repeat' first | refine X.rq ?_ | refine X.rc ?_ ?_ <;> intro hc <;> try omega)
 refine K.l_call (vals := [rv s4]) (Fx.cal rfl) (by rw [hrv4]; rfl) (D_U32 h1 s4 r4 hd4 g4) (K.pp [0] rfl) rfl ?_
 rintro u h' H' - ⟨rfl, rfl, s5, sm5, hd5, rfl⟩
 have hrv5 := (same_val sm5).trans hrv4
 have n4 := num_lt 4 r4
 obtain ⟨r5, e5⟩ : ∃ r, r = nxt 4 r4 := ⟨_, rfl⟩
 have g5 := nxt_len 4 r4
 rw [← e5] at hd5 g5
 have g5 : r5.2.length ≤ big := Nat.le_trans g5 g4
 have hread : readQ (nxt 4 (true, b)) = (⟨(num 1 r1 : Nat), num 8 r3, num 4 r4, (cellsR (num 1 r2) r5).1⟩, (cellsR (num 1 r2) r5).2) := by subst e5 e4 e3 e2 e1; rfl
 have n0 := num_lt 4 (true, b)
 obtain ⟨S, hS⟩ : ∃ x, x = num 4 (true, b) := ⟨_, rfl⟩
 rw [← hS] at n0 ⊢
 (repeat' first | refine X.rq ?_ | refine X.rc ?_ ?_ <;> intro hc <;> try omega)
 refine X.sto ?_
 simp only [Go.K.nmz]
 (repeat' first | refine X.rq ?_ | refine X.rc ?_ ?_ <;> intro hc <;> try omega)
 refine X.sto ?_
 simp only [Go.K.nmz]
 refine X.l ?_
 refine X.a ?_
 refine X.w ?_
 refine WC.allNil ?_
 refine K.WC.nilBuf 120 3 ?_
 refine K.c_join (β := Option RS × Rt × List OC × Option Nat × Nat) (fun q => [(0, .slice ao b.length ca), (2, .pointer (some ⟨B2, 0, none⟩)), (3, .int .i64 0), (4, .pointer (some ⟨p1, 0, none⟩)), (5, .int .u32 (S : Nat)), (6, .pointer (some ⟨B6, 0, none⟩)), (7, .int .i64 (num 1 r2 : Nat))]) (fun _ => h1)
  (fun q => bufA 120 3 q.2.2.2.1 q.2.2.1.length q.2.2.2.2 (q.2.2.1.map rowO).flatten :: all (q.2.2.1.map datA) :: rA q.1 :: blk B6 41 (cP ⟨(num 1 r1 : Nat), num 8 r3, num 4 r4, []⟩ (bufV q.2.2.2.1 q.2.2.1.length q.2.2.2.2)) :: blk B2 41 (cP zPd (.slice none 0 0)) :: F)
  (fun q => same s5 q.1 ∧ Rd h1 q.1 q.2.1.1 q.2.1.2 ∧ q.2.1.2.length ≤ big ∧ okO q.2.2.1 ∧ (∀ x ∈ q.2.2.1, x.data.length ≤ 65535) ∧ q.2.2.1.length ≤ num 1 r2 ∧ cellsR (num 1 r2) r5 = (q.2.2.1.map OC.cell, q.2.1)) (fun KJ hJ => ?_) ?_
 ·(repeat' first | refine X.rq ?_ | refine X.rc ?_ ?_ <;> intro hc <;> try omega)
  refine K.c_loop (σ := Option RS × Rt × List OC × Option Nat × Nat) (fun q => [(0, .slice ao b.length ca), (2, .pointer (some ⟨B2, 0, none⟩)), (3, .int .i64 0), (4, .pointer (some ⟨p1, 0, none⟩)), (5, .int .u32 (S : Nat)), (6, .pointer (some ⟨B6, 0, none⟩)), (7, .int .i64 (num 1 r2 : Nat)), (8, .int .i64 q.2.2.1.length)]) (fun _ => h1)
   (fun q => bufA 120 3 q.2.2.2.1 q.2.2.1.length q.2.2.2.2 (q.2.2.1.map rowO).flatten :: all (q.2.2.1.map datA) :: rA q.1 :: blk B6 41 (cP ⟨(num 1 r1 : Nat), num 8 r3, num 4 r4, []⟩ (bufV q.2.2.2.1 q.2.2.1.length q.2.2.2.2)) :: blk B2 41 (cP zPd (.slice none 0 0)) :: F)
   (fun q => q.2.2.1.length ≤ num 1 r2 ∧ same s5 q.1 ∧ Rd h1 q.1 q.2.1.1 q.2.1.2 ∧ q.2.1.2.length ≤ big ∧ okO q.2.2.1 ∧ (∀ x ∈ q.2.2.1, x.data.length ≤ 65535) ∧ cellsR (num 1 r2) r5 = (q.2.2.1.map OC.cell ++ (cellsR (num 1 r2 - q.2.2.1.length) q.2.1).1, (cellsR (num 1 r2 - q.2.2.1.length) q.2.1).2)) (fun q => num 1 r2 - q.2.2.1.length)
   (s5, r5, [], none, 0) ⟨Nat.zero_le _, same_refl _, hd5, g5, (fun x hx => by cases hx), (fun x hx => by cases hx), rfl⟩ (by repeat (first | exact K.Sub.nil _ | refine K.Sub.cons rfl ?_)) rfl rfl ?_
  rintro ⟨s, ⟨ok, rem⟩, m, c, cap⟩ ⟨hm, sm, hd, hg, hk, h65, hcr⟩ KL hKL
  dsimp only at hm sm hd hg hk h65 hcr ⊢
  have hrs := (same_val sm).trans hrv5
  by_cases hml : m.length < num 1 r2
  ·(repeat' first | refine X.rq ?_ | refine X.rc ?_ ?_ <;> intro hc <;> try omega)
   refine K.l_callV (vals := [rv s]) (Fx.cal rfl) (by rw [hrs]; rfl) (R_Err h1 s ok rem hd) (K.pp [2] rfl) rfl rfl ?_
   simp only [Go.K.nmz]
   cases ok with
   | false =>
    (repeat' first | refine X.rq ?_ | refine X.rc ?_ ?_ <;> intro hc <;> try omega)
    refine K.AT.perm (K.pp [1, 1] rfl) ?_
    simp only [Go.K.nmz]
    refine K.a_join hJ (s, (false, rem), m, c, cap) ⟨sm, hd, hg, hk, h65, hm, ?_⟩ (by repeat (first | exact K.Sub.nil _ | refine K.Sub.cons rfl ?_)) rfl rfl
    rw [hcr, cellsR_no, List.append_nil]
   | true =>
    (repeat' first | refine X.rq ?_ | refine X.rc ?_ ?_ <;> intro hc <;> try omega)
    refine K.l_alloc (Fx.zr rfl) rfl rfl (fun B9 => ?_)
    refine X.l ?_
    refine X.a ?_
    refine X.w ?_
    refine K.c_join (β := OC × Option RS) (fun q => [(0, .slice ao b.length ca), (2, .pointer (some ⟨B2, 0, none⟩)), (3, .int .i64 0), (4, .pointer (some ⟨p1, 0, none⟩)), (5, .int .u32 (S : Nat)), (6, .pointer (some ⟨B6, 0, none⟩)), (7, .int .i64 (num 1 r2 : Nat)), (8, .int .i64 m.length), (9, .pointer (some ⟨B9, 0, none⟩))]) (fun _ => h1)
     (fun q => blk B9 120 (rowO q.1) :: datA q.1 :: rA q.2 :: bufA 120 3 c m.length cap (m.map rowO).flatten :: all (m.map datA) :: blk B6 41 (cP ⟨(num 1 r1 : Nat), num 8 r3, num 4 r4, []⟩ (bufV c m.length cap)) :: blk B2 41 (cP zPd (.slice none 0 0)) :: F)
     (fun q => same s q.2 ∧ Rd h1 q.2 (cellQ (true, rem)).2.1 (cellQ (true, rem)).2.2 ∧ q.1.cell = (cellQ (true, rem)).1 ∧ q.1.killer < 4294967296 ∧ q.1.data.length ≤ 65535) (fun KC hC => ?_) ?_
    ·(repeat' first | refine X.rq ?_ | refine X.rc ?_ ?_ <;> intro hc <;> try omega)
     refine K.l_call (vals := [rv s]) (Fx.cal rfl) (by rw [hrs]; rfl) (D_U16 h1 s (true, rem) hd hg) (K.pp [1] rfl) rfl ?_
     rintro u h' H' - ⟨rfl, rfl, s7, sm7, hd7, rfl⟩
     have hrv7 := (same_val sm7).trans hrs
     have n7 := num_lt 2 (true, rem)
     have g7 : (nxt 2 (true, rem)).2.length ≤ big := Nat.le_trans (nxt_len 2 (true, rem)) hg
     by_cases hz : num 2 (true, rem) = 0
     ·have hcq : cellQ (true, rem) = (⟨false, 0, []⟩, nxt 2 (true, rem)) := by unfold cellQ; rw [if_pos hz]
      rw [hcq] at hC
      (repeat' first | refine X.rq ?_ | refine X.rc ?_ ?_ <;> intro hc <;> try omega)
      refine K.AT.nilBuf 5 1 ?_
      refine K.AT.perm (K.pp [2, 0, 0] rfl) ?_
      simp only [Go.K.nmz]
      refine K.a_join hC (⟨false, 0, none, 0, []⟩, s7) ⟨sm7, hd7, rfl, show (0 : Nat) < 4294967296 by decide, Nat.zero_le _⟩ (by repeat (first | exact K.Sub.nil _ | refine K.Sub.cons rfl ?_)) rfl rfl
     ·have hcq : cellQ (true, rem) = (⟨true, num 4 (nxt 2 (true, rem)), tk (nxt 4 (nxt 2 (true, rem))).1 (nxt 4 (nxt 2 (true, rem))).2 (num 2 (true, rem) : Nat)⟩, (tkOk (nxt 4 (nxt 2 (true, rem))).1 (nxt 4 (nxt 2 (true, rem))).2 (num 2 (true, rem) : Nat), tkRem (nxt 4 (nxt 2 (true, rem))).1 (nxt 4 (nxt 2 (true, rem))).2 (num 2 (true, rem) : Nat))) := by unfold cellQ; rw [if_neg hz]
      rw [hcq] at hC
      (repeat' first | refine X.rq ?_ | refine X.rc ?_ ?_ <;> intro hc <;> try omega)
      refine K.l_call (vals := [rv s7]) (Fx.cal rfl) (by rw [hrv7]; rfl) (D_U32 h1 s7 (nxt 2 (true, rem)) hd7 g7) (K.pp [0] rfl) rfl ?_
      rintro u h' H' - ⟨rfl, rfl, s8, sm8, hd8, rfl⟩
      have hrv8 := (same_val sm8).trans hrv7
      have n8 := num_lt 4 (nxt 2 (true, rem))
      have g8 : (nxt 4 (nxt 2 (true, rem))).2.length ≤ big := Nat.le_trans (nxt_len 4 _) g7
      (repeat' first | refine X.rq ?_ | refine X.rc ?_ ?_ <;> intro hc <;> try omega)
      refine K.l_call (vals := [rv s8, .int .i64 (num 2 (true, rem) : Nat)]) (Fx.cal rfl) (by rw [hrv8]; rfl) (R_Raw' h1 s8 _ _ (num 2 (true, rem) : Nat) hd8 g8 (by omega) (by omega)) (K.pp [0] rfl) rfl ?_
      rintro u h' H' - ⟨rfl, a9, cap9, s9, rfl, sm9, hd9, rfl⟩
      have hlen9 : (tk (nxt 4 (nxt 2 (true, rem))).1 (nxt 4 (nxt 2 (true, rem))).2 (num 2 (true, rem) : Nat)).length ≤ 65535 := by
       unfold tk
       split
       ·rw [List.length_take, Int.toNat_natCast]; omega
       ·exact Nat.zero_le _
      generalize tk (nxt 4 (nxt 2 (true, rem))).1 (nxt 4 (nxt 2 (true, rem))).2 (num 2 (true, rem) : Nat) = dat at hC hlen9 ⊢
      simp only [Go.K.nmz]
      (repeat' first | refine X.rq ?_ | refine X.rc ?_ ?_ <;> intro hc <;> try omega)
      refine K.WL.perm (K.pp [2] rfl) ?_
      simp only [Go.K.nmz]
      refine X.stw ?_
      simp only [Go.K.nmz]
      (repeat' first | refine X.rq ?_ | refine X.rc ?_ ?_ <;> intro hc <;> try omega)
      refine K.a_join hC (⟨true, num 4 (nxt 2 (true, rem)), a9, cap9, dat⟩, s9) ⟨same_trans sm7 (same_trans sm8 sm9), hd9, rfl, n8, hlen9⟩ (by repeat (first | exact K.Sub.nil _ | refine K.Sub.cons rfl ?_)) rfl rfl
    ·rintro ⟨c1, s1⟩ ⟨sm1, hd1, hc1, hk1, hl1⟩
     dsimp only at sm1 hd1 hc1 hk1 hl1 ⊢
     have hg1 : (cellQ (true, rem)).2.2.length ≤ big := by
      refine Nat.le_trans (cellQ_len _) hg
     (repeat' first | refine X.rq ?_ | refine X.rc ?_ ?_ <;> intro hc <;> try omega)
     refine K.l_buildSlice (Fx.und rfl) (Fx.sz rfl) rfl (Fx.zr rfl) rfl rfl rfl (cs := rowO c1) rfl rfl (fun B10 => ?_)
     refine K.l_append_at 4 rfl (Fx.und rfl) (Fx.und rfl) rfl (Fx.sz rfl) (Fx.zr rfl) rfl (Fx.byt rfl) rfl rfl (K.src_cells (K.cels_own (pre := []) (cs := rowO c1) (post := []) 0 rfl rfl) rfl (List.all_eq_true.1 (show ones (rowO c1) = true from rfl))) (by omega) (by omega) rfl (fun a6 cap6 => ?_)
     simp only [Go.K.nmz]
     (repeat' first | refine X.rq ?_ | refine X.rc ?_ ?_ <;> intro hc <;> try omega)
     refine X.sto ?_
     simp only [Go.K.nmz]
     (repeat' first | refine X.rq ?_ | refine X.rc ?_ ?_ <;> intro hc <;> try omega)
     refine K.AT.sel [0, 0] rfl ?_
     refine K.AT.perm (K.pp [0, 2, 1] rfl) ?_
     simp only [Go.K.nmz]
     refine AT.allPush ?_
     refine K.AT.perm (K.pp [1] rfl) ?_
     simp only [Go.K.nmz]
     refine K.a_round hKL (s1, (cellQ (true, rem)).2, m ++ [c1], a6, cap6) ⟨by dsimp only; rw [List.length_append, List.length_singleton]; omega, same_trans sm sm1, hd1, hg1, fun x hx => ?_, fun x hx => ?_, ?_⟩ ?_ rfl ?_ (by dsimp only; rw [List.length_append, List.length_singleton]; omega)
     ·rcases List.mem_append.1 hx with hx | hx
      ·exact hk x hx
      ·rw [List.mem_singleton.1 hx]; exact hk1
     ·rcases List.mem_append.1 hx with hx | hx
      ·exact h65 x hx
      ·rw [List.mem_singleton.1 hx]; exact hl1
     ·dsimp only
      rw [hcr, List.length_append, List.length_singleton, show num 1 r2 - m.length = (num 1 r2 - (m.length + 1)) + 1 by omega, cellsR, if_pos rfl, List.map_append, ← hc1, List.append_assoc]
      rfl
     ·dsimp only
      rw [List.length_append, List.length_singleton]
      exact (by repeat (first | exact K.Sub.nil _ | refine K.Sub.cons rfl ?_))
     ·dsimp only
      rw [List.length_append, List.length_singleton, List.map_append, List.map_append, List.flatten_append]
      simp only [List.map_cons, List.map_nil, List.flatten_cons, List.flatten_nil, List.append_nil]
      rfl
  ·(repeat' first | refine X.rq ?_ | refine X.rc ?_ ?_ <;> intro hc <;> try omega)
   refine K.a_join hJ (s, (ok, rem), m, c, cap) ⟨sm, hd, hg, hk, h65, hm, ?_⟩ (by repeat (first | exact K.Sub.nil _ | refine K.Sub.cons rfl ?_)) rfl rfl
   rw [hcr, show num 1 r2 - m.length = 0 by omega]
   show (_ ++ [], _) = _
   rw [List.append_nil]
   rfl
 ·rintro ⟨s, ⟨ok, rem⟩, m, c, cap⟩ ⟨sm, hd, hg, hk, h65, hm, hcr⟩
  dsimp only at sm hd hg hk h65 hm hcr ⊢
  have hrs := (same_val sm).trans hrv5
  have hreadq : readQ (nxt 4 (true, b)) = (⟨(num 1 r1 : Nat), num 8 r3, num 4 r4, m.map OC.cell⟩, (ok, rem)) := by rw [hread, hcr]
  have hbg : rem.length ≤ 140737488355328 := hg
  (repeat' first | refine X.rq ?_ | refine X.rc ?_ ?_ <;> intro hc <;> try omega)
  refine K.l_callV (vals := [rv s]) (Fx.cal rfl) (by rw [hrs]; rfl) (R_Left h1 s ok rem hd) (K.pp [2] rfl) rfl rfl ?_
  simp only [Go.K.nmz]
  (repeat' first | refine X.rq ?_ | refine X.rc ?_ ?_ <;> intro hc <;> try omega)
  refine K.l_call (vals := [rv s, .int .i64 rem.length]) (Fx.cal rfl) (by rw [hrs]; rfl) (R_Raw' h1 s ok rem rem.length hd hg (by omega) (by omega)) (K.pp [0] rfl) rfl ?_
  rintro u h' H' - ⟨rfl, a9, cap9, s9, rfl, sm9, hd9, rfl⟩
  have hrs9 := (same_val sm9).trans hrs
  have et : tk ok rem rem.length = if ok = true then rem else [] := by
   unfold tk
   cases ok <;> simp
  have eo : tkOk ok rem rem.length = ok := by
   unfold tkOk
   cases ok <;> simp
  have er : tkRem ok rem rem.length = if ok = true then [] else rem := by
   unfold tkRem
   cases ok <;> simp
  rw [eo, er] at hd9
  rw [et]
  simp only [Go.K.cna]
  refine K.WL.freezeBuf (fun h2 le2 hbv2 => ?_)
  have hd9 := hd9.le le2
  have hb2 := (hb.le le1).le le2
  simp only [Go.K.nmz]
  have hle2 := le1.trans le2
  have hres : ¬ decP b → decQ b = (zPd, 5) := fun h => by unfold decQ; rw [if_neg h]
  have hR : (readQ (nxt 4 (true, b))).2 = (ok, rem) := by rw [hreadq]
  have hR1 : (readQ (nxt 4 (true, b))).1 = ⟨(num 1 r1 : Nat), num 8 r3, num 4 r4, m.map OC.cell⟩ := by rw [hreadq]
  have hwf := readQ_wf (nxt 4 (true, b))
  by_cases h512 : b.length = 512
  ·cases ok with
   | false =>
    have hlr : rem.length ≤ big := hg
    (repeat' first | refine X.rq ?_ | refine X.rc ?_ ?_ <;> intro hc <;> try omega)
    refine K.l_call (vals := [rv s9]) (Fx.cal rfl) (by rw [hrs9]; rfl) (R_End h2 s9 false _ hd9 (by simpa using hg)) (K.pp [0] rfl) rfl ?_
    rintro u h' H' - ⟨rfl, rfl, s10, sm10, hd10, rfl⟩
    simp only [Go.K.nmz]
    (repeat' first | refine X.rq ?_ | refine X.rc ?_ ?_ <;> intro hc <;> try omega)
    refine K.WL.perm (K.pp [4] rfl) ?_
    simp only [Go.K.nmz]
    refine X.stw ?_
    simp only [Go.K.nmz]
    (repeat' first | refine X.rq ?_ | refine X.rc ?_ ?_ <;> intro hc <;> try omega)
    refine AT.allNil ?_
    refine K.AT.nilBuf 120 3 ?_
    refine K.AT.perm (K.pp [2, 2, 2, 2, 2, 0, 0] rfl) ?_
    simp only [Go.K.nmz]
    refine K.dc (.cell rfl (Fx.agg rfl) (Fx.sz rfl) (by first | exact K.cels_own (pre := []) (post := []) 0 rfl rfl | exact K.cels_own (pre := []) (post := []) 1 rfl rfl | exact K.cels_own (pre := []) (post := []) 2 rfl rfl | exact K.cels_own (pre := []) (post := []) 3 rfl rfl | exact K.cels_own (pre := []) (post := []) 4 rfl rfl | exact K.cels_own (pre := []) (post := []) 5 rfl rfl) (.tmp rfl .nil)) (by first | exact K.Base.le.refl _ | assumption) (vs := [.agg (cP zPd (bufV none 0 0)).toArray, .int .i64 5]) (D := [_, _, _, _, _]) (H' := pgA none 0 []) rfl (by rw [hres (fun hP => by have := hP.2.1; rw [hR] at this; cases this)]; exact ⟨none, 0, [], rfl, (fun c hc => by cases hc), (fun c hc => by cases hc), Nat.zero_le _, rfl, rfl⟩)
   | true =>
    simp only [if_true] at hbv2 hd9 ⊢
    (repeat' first | refine X.rq ?_ | refine X.rc ?_ ?_ <;> intro hc <;> try omega)
    refine K.l_call (vals := [rv s9]) (Fx.cal rfl) (by rw [hrs9]; rfl) (R_End h2 s9 true [] hd9 (Nat.zero_le _)) (K.pp [0] rfl) rfl ?_
    rintro u h' H' - ⟨rfl, rfl, s10, sm10, hd10, rfl⟩
    simp only [Go.K.nmz]
    (repeat' first | refine X.rq ?_ | refine X.rc ?_ ?_ <;> intro hc <;> try omega)
    refine K.s_pureE (K.p_sliceB (k1 := .i64) (k2 := .i64) (p := 4) (q := b.length) hb2 (Fx.und rfl) (Fx.sz rfl) rfl ⟨_, rfl, rfl⟩ rfl (by omega) (Nat.le_refl _)) rfl ?_
    rintro v4 hb4
    rw [show (b.take b.length).drop 4 = b.drop 4 by rw [List.take_length]] at hb4
    (repeat' first | refine X.rq ?_ | refine X.rc ?_ ?_ <;> intro hc <;> try omega)
    refine K.l_callV (Fx.cal rfl) rfl (SumOf h2 v4 (b.drop 4) hb4 (by rw [List.length_drop]; omega)) (K.pp [] rfl) rfl rfl ?_
    simp only [List.nil_append]
    by_cases hS2 : S = sumQ 0 (b.drop 4)
    ·have hmay := K.TrV.borrow (h := h2) (A := pgA c cap m) (R := []) fun h' hle hs => PMay h' _ ⟨(num 1 r1 : Nat), num 8 r3, num 4 r4, m.map OC.cell⟩ (says_page hs hk (by rw [← hR1]; exact hwf) rfl)
     simp only [List.length_map] at hmay
     (repeat' first | refine X.rq ?_ | refine X.rc ?_ ?_ <;> intro hc <;> try omega)
     refine K.l_callV (vals := [.agg (cP ⟨(num 1 r1 : Nat), num 8 r3, num 4 r4, m.map OC.cell⟩ (bufV c m.length cap)).toArray]) (Fx.cal rfl) rfl hmay (K.pp [1, 1] rfl) rfl rfl ?_
     simp only [pgA, List.cons_append, List.nil_append]
     simp only [Go.K.nmz]
     cases hm2 : mayQ ⟨(num 1 r1 : Nat), num 8 r3, num 4 r4, m.map OC.cell⟩ with
     | false =>
      (repeat' first | refine X.rq ?_ | refine X.rc ?_ ?_ <;> intro hc <;> try omega)
      refine K.WL.perm (K.pp [4] rfl) ?_
      simp only [Go.K.nmz]
      refine X.stw ?_
      simp only [Go.K.nmz]
      (repeat' first | refine X.rq ?_ | refine X.rc ?_ ?_ <;> intro hc <;> try omega)
      refine AT.allNil ?_
      refine K.AT.nilBuf 120 3 ?_
      refine K.AT.perm (K.pp [2, 2, 2, 2, 2, 0, 0] rfl) ?_
      simp only [Go.K.nmz]
      refine K.dc (.cell rfl (Fx.agg rfl) (Fx.sz rfl) (by first | exact K.cels_own (pre := []) (post := []) 0 rfl rfl | exact K.cels_own (pre := []) (post := []) 1 rfl rfl | exact K.cels_own (pre := []) (post := []) 2 rfl rfl | exact K.cels_own (pre := []) (post := []) 3 rfl rfl | exact K.cels_own (pre := []) (post := []) 4 rfl rfl | exact K.cels_own (pre := []) (post := []) 5 rfl rfl) (.tmp rfl .nil)) (by first | exact K.Base.le.refl _ | assumption) (vs := [.agg (cP zPd (bufV none 0 0)).toArray, .int .i64 5]) (D := [_, _, _, _, _]) (H' := pgA none 0 []) rfl (by rw [hres (fun hP => by have := hP.2.2.2.1; rw [hR1, hm2] at this; cases this)]; exact ⟨none, 0, [], rfl, (fun c hc => by cases hc), (fun c hc => by cases hc), Nat.zero_le _, rfl, rfl⟩)
     | true =>
      (repeat' first | refine X.rq ?_ | refine X.rc ?_ ?_ <;> intro hc <;> try omega)
      refine K.l_callV (Fx.cal rfl) rfl (CtnB h2 82 (Fx.cal rfl) _ rem _ hbv2 (by omega) (PDecode1 h2)) (K.pp [] rfl) rfl rfl ?_
      simp only [List.nil_append]
      cases hz : rem.any (fun x => decide (x ≠ 0)) with
      | true =>
       (repeat' first | refine X.rq ?_ | refine X.rc ?_ ?_ <;> intro hc <;> try omega)
       refine K.WL.perm (K.pp [4] rfl) ?_
       simp only [Go.K.nmz]
       refine X.stw ?_
       simp only [Go.K.nmz]
       (repeat' first | refine X.rq ?_ | refine X.rc ?_ ?_ <;> intro hc <;> try omega)
       refine AT.allNil ?_
       refine K.AT.nilBuf 120 3 ?_
       refine K.AT.perm (K.pp [2, 2, 2, 2, 2, 0, 0] rfl) ?_
       simp only [Go.K.nmz]
       refine K.dc (.cell rfl (Fx.agg rfl) (Fx.sz rfl) (by first | exact K.cels_own (pre := []) (post := []) 0 rfl rfl | exact K.cels_own (pre := []) (post := []) 1 rfl rfl | exact K.cels_own (pre := []) (post := []) 2 rfl rfl | exact K.cels_own (pre := []) (post := []) 3 rfl rfl | exact K.cels_own (pre := []) (post := []) 4 rfl rfl | exact K.cels_own (pre := []) (post := []) 5 rfl rfl) (.tmp rfl .nil)) (by first | exact K.Base.le.refl _ | assumption) (vs := [.agg (cP zPd (bufV none 0 0)).toArray, .int .i64 5]) (D := [_, _, _, _, _]) (H' := pgA none 0 []) rfl (by rw [hres (fun hP => by obtain ⟨x, hx, hx2⟩ := List.any_eq_true.1 hz; exact absurd (hP.2.2.2.2 x (by rw [hR]; exact hx)) (of_decide_eq_true hx2))]; exact ⟨none, 0, [], rfl, (fun c hc => by cases hc), (fun c hc => by cases hc), Nat.zero_le _, rfl, rfl⟩)
      | false =>
       have hP : decP b := ⟨h512, by rw [hR], by rw [← hS]; exact hS2, by rw [hR1]; exact hm2, fun c hc => by
        rw [hR] at hc
        have := List.any_eq_false.1 hz c hc
        simpa using this⟩
       have hdec : decQ b = (⟨(num 1 r1 : Nat), num 8 r3, num 4 r4, m.map OC.cell⟩, 0) := by unfold decQ; rw [if_pos hP, hR1]
       (repeat' first | refine X.rq ?_ | refine X.rc ?_ ?_ <;> intro hc <;> try omega)
       refine K.WL.perm (K.pp [4] rfl) ?_
       simp only [Go.K.nmz]
       refine X.stw ?_
       simp only [Go.K.nmz]
       (repeat' first | refine X.rq ?_ | refine X.rc ?_ ?_ <;> intro hc <;> try omega)
       refine K.AT.perm (K.pp [0, 2, 2, 0, 0] rfl) ?_
       simp only [Go.K.nmz]
       have hm255 : m.length ≤ 255 := by have := num_lt 1 r2; omega
       refine K.dc (.cell rfl (Fx.agg rfl) (Fx.sz rfl) (by first | exact K.cels_own (pre := []) (post := []) 0 rfl rfl | exact K.cels_own (pre := []) (post := []) 1 rfl rfl | exact K.cels_own (pre := []) (post := []) 2 rfl rfl | exact K.cels_own (pre := []) (post := []) 3 rfl rfl | exact K.cels_own (pre := []) (post := []) 4 rfl rfl | exact K.cels_own (pre := []) (post := []) 5 rfl rfl) (.tmp rfl .nil)) (by first | exact K.Base.le.refl _ | assumption) (vs := [.agg (cP ⟨(num 1 r1 : Nat), num 8 r3, num 4 r4, []⟩ (bufV c m.length cap)).toArray, .int .i64 0]) (D := [_, _, _]) (H' := pgA c cap m) rfl (by rw [hdec]; exact ⟨c, cap, m, rfl, hk, h65, hm255, rfl, rfl⟩)
    ·have hS2 : ¬ ((S : Int) = (sumQ 0 (b.drop 4) : Nat)) := by omega
     (repeat' first | refine X.rq ?_ | refine X.rc ?_ ?_ <;> intro hc <;> try omega)
     refine K.WL.perm (K.pp [4] rfl) ?_
     simp only [Go.K.nmz]
     refine X.stw ?_
     simp only [Go.K.nmz]
     (repeat' first | refine X.rq ?_ | refine X.rc ?_ ?_ <;> intro hc <;> try omega)
     refine AT.allNil ?_
     refine K.AT.nilBuf 120 3 ?_
     refine K.AT.perm (K.pp [2, 2, 2, 2, 2, 0, 0] rfl) ?_
     simp only [Go.K.nmz]
     refine K.dc (.cell rfl (Fx.agg rfl) (Fx.sz rfl) (by first | exact K.cels_own (pre := []) (post := []) 0 rfl rfl | exact K.cels_own (pre := []) (post := []) 1 rfl rfl | exact K.cels_own (pre := []) (post := []) 2 rfl rfl | exact K.cels_own (pre := []) (post := []) 3 rfl rfl | exact K.cels_own (pre := []) (post := []) 4 rfl rfl | exact K.cels_own (pre := []) (post := []) 5 rfl rfl) (.tmp rfl .nil)) (by first | exact K.Base.le.refl _ | assumption) (vs := [.agg (cP zPd (bufV none 0 0)).toArray, .int .i64 5]) (D := [_, _, _, _, _]) (H' := pgA none 0 []) rfl (by rw [hres (fun hP => by have := hP.2.2.1; rw [← hS] at this; omega)]; exact ⟨none, 0, [], rfl, (fun c hc => by cases hc), (fun c hc => by cases hc), Nat.zero_le _, rfl, rfl⟩)
  ·have h512' : ¬ ((b.length : Int) = 512) := by omega
   (repeat' first | refine X.rq ?_ | refine X.rc ?_ ?_ <;> intro hc <;> try omega)
   refine K.WL.perm (K.pp [4] rfl) ?_
   simp only [Go.K.nmz]
   refine X.stw ?_
   simp only [Go.K.nmz]
   (repeat' first | refine X.rq ?_ | refine X.rc ?_ ?_ <;> intro hc <;> try omega)
   refine AT.allNil ?_
   refine K.AT.nilBuf 120 3 ?_
   refine K.AT.perm (K.pp [2, 2, 2, 2, 2, 0, 0] rfl) ?_
   simp only [Go.K.nmz]
   refine K.dc (.cell rfl (Fx.agg rfl) (Fx.sz rfl) (by first | exact K.cels_own (pre := []) (post := []) 0 rfl rfl | exact K.cels_own (pre := []) (post := []) 1 rfl rfl | exact K.cels_own (pre := []) (post := []) 2 rfl rfl | exact K.cels_own (pre := []) (post := []) 3 rfl rfl | exact K.cels_own (pre := []) (post := []) 4 rfl rfl | exact K.cels_own (pre := []) (post := []) 5 rfl rfl) (.tmp rfl .nil)) (by first | exact K.Base.le.refl _ | assumption) (vs := [.agg (cP zPd (bufV none 0 0)).toArray, .int .i64 5]) (D := [_, _, _, _, _]) (H' := pgA none 0 []) rfl (by rw [hres (fun hP => h512 hP.1)]; exact ⟨none, 0, [], rfl, (fun c hc => by cases hc), (fun c hc => by cases hc), Nat.zero_le _, rfl, rfl⟩)
end Go.Proofs.YtijbhgiigddjdaaGreat.Pg
