/-
 A page read of bytes, by the document. Conditions: each theorem's own.
-/
import Derived.Test.YtijbhgiigddjdaaGreatPB27
import Derived.Test.YtijbhgiigddjdaaGreatPB29
import Derived.Test.YtijbhgiigddjdaaGreatPB10
set_option linter.unusedVariables false
set_option linter.unusedSimpArgs false
namespace Go.Proofs.YtijbhgiigddjdaaGreat.Pg
open Go Go.K Go.Proofs Go.Proofs.YtijbhgiigddjdaaGreat Go.Proofs.YtijbhgiigddjdaaGreat.Cc Go.Proofs.YtijbhgiigddjdaaGreat.Rb
set_option maxRecDepth 10000

theorem E_Fixed (h : Base) (p : Nat) (sv : Value) (r : Rt) (m : Nat) (hb : BV h sv r.2) (hl : r.2.length ≤ big) (hm : m ≤ 8) :
  Tr Tryz.prog 42 [qv p, .int .i64 m] h [qA p sv (!r.1)] (QPost h p (nxt m r).1 (nxt m r).2 (· = .int .u64 (num m r : Nat))) := Q_Fixed h p sv r.1 r.2 m hb hl hm
theorem cell_zd (h : Base) : CellC h [.bool false, .int .u32 0, .slice none 0 0] ⟨false, 0, []⟩ := ⟨by decide, by decide, none, 0, rfl, BV.nil⟩
def DecR (r : Pag × Bool) (u : Value) (h' : Base) (H' : List Asrt) : Prop := ∃ cs, u = .tuple #[.agg (cs : List Value).toArray, .bool r.2] ∧ PagC h' cs r.1 ∧ H' = []
set_option maxHeartbeats 4000000 in
theorem RDecode (h : Base) (v : Value) (b : List UInt8) (hb : BV h v b) (hl : b.length ≤ 140737488355328) :
  Tr Tryz.prog 11 [v] h [] (fun u h' H' => DecR (rdecQ b) u h' H') := by
 obtain ⟨ao, ca, rfl⟩ := hb.len
 have hbig : b.length ≤ big := by unfold big; omega
 refine K.enter Tryz.func11 rfl (Nat.le_of_ble_eq_true rfl) (fun F => ?_)
 simp only [List.nil_append]
 (repeat' first | refine X.rq ?_ | refine X.rc ?_ ?_ <;> intro hc <;> try omega)
 refine K.l_alloc (Fx.zr rfl) rfl rfl (fun B2 => ?_)
 have hz : ∀ h', PagC h' (cP zPd (.slice none 0 0)) zPd := fun h' => ⟨wf_zPd, _, rfl, [], .inl ⟨_, _, rfl, rfl⟩, rfl, fun j c x hc => by cases hc⟩
 by_cases h512 : b.length = 512
 ·(repeat' first | refine X.rq ?_ | refine X.rc ?_ ?_ <;> intro hc <;> try omega)
  refine K.s_pureE (K.p_sliceB (k1 := .i64) (k2 := .i64) (p := 4) (q := b.length) hb (Fx.und rfl) (Fx.sz rfl) rfl ⟨_, rfl, rfl⟩ rfl (by omega) (Nat.le_refl _)) rfl ?_
  rintro v4 hb4
  rw [show (b.take b.length).drop 4 = b.drop 4 by rw [List.take_length]] at hb4
  refine K.l_call (Fx.cal rfl) rfl (Copy h v4 (b.drop 4) hb4 (by rw [List.length_drop]; omega)) (K.pp [] rfl) rfl ?_
  rintro u h' H' - ⟨e, a2, cap2, rfl, rfl⟩
  obtain rfl := e.symm
  simp only [List.cons_append, List.nil_append]
  refine K.WL.freezeBuf (fun h1 le1 hd => ?_)
  obtain ⟨ao0, ca0, e0⟩ : ∃ ao ca, bufV a2 (b.drop 4).length cap2 = .slice ao (b.drop 4).length ca := ⟨_, _, rfl⟩
  rw [e0] at hd ⊢
  have hb0 : BV h1 (.slice ao0 (b.drop 4).length ca0) ((true, b.drop 4) : Rt).2 := hd
  have g0 : ((true, b.drop 4) : Rt).2.length ≤ big := by show (b.drop 4).length ≤ _; rw [List.length_drop]; unfold big; omega
  clear hd
  (repeat' first | refine X.rq ?_ | refine X.rc ?_ ?_ <;> intro hc <;> try omega)
  refine K.l_box (cs := [.slice ao0 (b.drop 4).length ca0, .bool false]) rfl rfl rfl (fun B4 => ?_)
  (repeat' first | refine X.rq ?_ | refine X.rc ?_ ?_ <;> intro hc <;> try omega)
  refine K.l_call (vals := [qv B4, .int .i64 1]) (Fx.cal rfl) rfl (E_Fixed h1 B4 _ (true, b.drop 4) 1 hb0 g0 (by decide)) (K.pp [0] rfl) rfl ?_
  rintro u h' H' - ⟨rfl, rfl, sv1, hb1, rfl⟩
  obtain ⟨ao1, ca1, rfl⟩ := hb1.len
  have n1 := num_lt 1 (true, b.drop 4)
  have g1 : (nxt 1 (true, b.drop 4)).2.length ≤ big := Nat.le_trans (nxt_len 1 (true, b.drop 4)) g0
  obtain ⟨r1, e1⟩ : ∃ r, r = nxt 1 (true, b.drop 4) := ⟨_, rfl⟩
  rw [← e1] at hb1 g1 ⊢
  simp only [Go.K.nmz]
  (repeat' first | refine X.rq ?_ | refine X.rc ?_ ?_ <;> intro hc <;> try omega)
  refine K.l_alloc (Fx.zr rfl) rfl rfl (fun B5 => ?_)
  refine X.stw ?_
  simp only [Go.K.nmz]
  (repeat' first | refine X.rq ?_ | refine X.rc ?_ ?_ <;> intro hc <;> try omega)
  refine K.l_call (vals := [qv B4, .int .i64 1]) (Fx.cal rfl) rfl (E_Fixed h1 B4 _ r1 1 hb1 g1 (by decide)) (K.pp [1] rfl) rfl ?_
  rintro u h' H' - ⟨rfl, rfl, sv2, hb2, rfl⟩
  obtain ⟨ao2, ca2, rfl⟩ := hb2.len
  have n2 := num_lt 1 r1
  have g2 : (nxt 1 r1).2.length ≤ big := Nat.le_trans (nxt_len 1 r1) g1
  obtain ⟨r2, e2⟩ : ∃ r, r = nxt 1 r1 := ⟨_, rfl⟩
  rw [← e2] at hb2 g2 ⊢
  simp only [Go.K.nmz]
  (repeat' first | refine X.rq ?_ | refine X.rc ?_ ?_ <;> intro hc <;> try omega)
  refine K.l_call (vals := [qv B4, .int .i64 8]) (Fx.cal rfl) rfl (E_Fixed h1 B4 _ r2 8 hb2 g2 (by decide)) (K.pp [0] rfl) rfl ?_
  rintro u h' H' - ⟨rfl, rfl, sv3, hb3, rfl⟩
  obtain ⟨ao3, ca3, rfl⟩ := hb3.len
  have n3 := num_lt 8 r2
  have g3 : (nxt 8 r2).2.length ≤ big := Nat.le_trans (nxt_len 8 r2) g2
  obtain ⟨r3, e3⟩ : ∃ r, r = nxt 8 r2 := ⟨_, rfl⟩
  rw [← e3] at hb3 g3 ⊢
  simp only [Go.K.nmz]
  (repeat' first | refine X.rq ?_ | refine X.rc ?_ ?_ <;> intro hc <;> try omega)
  refine X.sto ?_
  simp only [Go.K.nmz]
  (repeat' first | refine X.rq ?_ | refine X.rc ?_ ?_ <;> intro hc <;> try omega)
  refine K.l_call (vals := [qv B4, .int .i64 4]) (Fx.cal rfl) rfl (E_Fixed h1 B4 _ r3 4 hb3 g3 (by decide)) (K.pp [0] rfl) rfl ?_
  rintro u h' H' - ⟨rfl, rfl, sv4, hb4, rfl⟩
  obtain ⟨ao4, ca4, rfl⟩ := hb4.len
  have n4 := num_lt 4 r3
  have g4 : (nxt 4 r3).2.length ≤ big := Nat.le_trans (nxt_len 4 r3) g3
  obtain ⟨r4, e4⟩ : ∃ r, r = nxt 4 r3 := ⟨_, rfl⟩
  rw [← e4] at hb4 g4 ⊢
  simp only [Go.K.nmz]
  (repeat' first | refine X.rq ?_ | refine X.rc ?_ ?_ <;> intro hc <;> try omega)
  refine X.sto ?_
  simp only [Go.K.nmz]
  have hread : readQ (true, b.drop 4) = (⟨(num 1 (true, b.drop 4) : Nat), num 8 r2, num 4 r3, (cellsR (num 1 r1) r4).1⟩, (cellsR (num 1 r1) r4).2) := by subst e4 e3 e2 e1; rfl
  refine X.l ?_
  refine X.a ?_
  refine X.w ?_
  refine K.WC.nilBuf 120 3 ?_
  refine K.c_join (β := Value × Rt × List PCell × List (List Value) × Option Nat × Nat × Base) (fun q => [(0, .slice ao b.length ca), (2, .pointer (some ⟨B2, 0, none⟩)), (3, .bool false), (4, .pointer (some ⟨B4, 0, none⟩)), (5, .pointer (some ⟨B5, 0, none⟩)), (6, .int .i64 (num 1 r1 : Nat))]) (fun q => q.2.2.2.2.2.2)
   (fun q => bufA 120 3 q.2.2.2.2.1 q.2.2.1.length q.2.2.2.2.2.1 q.2.2.2.1.flatten :: qA B4 q.1 (!q.2.1.1) :: blk B5 41 (cP ⟨(num 1 (true, b.drop 4) : Nat), num 8 r2, num 4 r3, []⟩ (bufV q.2.2.2.2.1 q.2.2.1.length q.2.2.2.2.2.1)) :: blk B2 41 (cP zPd (.slice none 0 0)) :: F)
   (fun q => h1.le q.2.2.2.2.2.2 ∧ BV q.2.2.2.2.2.2 q.1 q.2.1.2 ∧ q.2.1.2.length ≤ big ∧ RowC q.2.2.2.2.2.2 q.2.2.2.1 q.2.2.1 ∧ q.2.2.1.length ≤ num 1 r1 ∧ cellsR (num 1 r1) r4 = (q.2.2.1, q.2.1)) (fun KJ hJ => ?_) ?_
  ·(repeat' first | refine X.rq ?_ | refine X.rc ?_ ?_ <;> intro hc <;> try omega)
   refine K.c_loop (σ := Value × Rt × List PCell × List (List Value) × Option Nat × Nat × Base) (fun q => [(0, .slice ao b.length ca), (2, .pointer (some ⟨B2, 0, none⟩)), (3, .bool false), (4, .pointer (some ⟨B4, 0, none⟩)), (5, .pointer (some ⟨B5, 0, none⟩)), (6, .int .i64 (num 1 r1 : Nat)), (7, .int .i64 q.2.2.1.length)]) (fun q => q.2.2.2.2.2.2)
    (fun q => bufA 120 3 q.2.2.2.2.1 q.2.2.1.length q.2.2.2.2.2.1 q.2.2.2.1.flatten :: qA B4 q.1 (!q.2.1.1) :: blk B5 41 (cP ⟨(num 1 (true, b.drop 4) : Nat), num 8 r2, num 4 r3, []⟩ (bufV q.2.2.2.2.1 q.2.2.1.length q.2.2.2.2.2.1)) :: blk B2 41 (cP zPd (.slice none 0 0)) :: F)
    (fun q => q.2.2.1.length ≤ num 1 r1 ∧ h1.le q.2.2.2.2.2.2 ∧ BV q.2.2.2.2.2.2 q.1 q.2.1.2 ∧ q.2.1.2.length ≤ big ∧ RowC q.2.2.2.2.2.2 q.2.2.2.1 q.2.2.1 ∧ cellsR (num 1 r1) r4 = (q.2.2.1 ++ (cellsR (num 1 r1 - q.2.2.1.length) q.2.1).1, (cellsR (num 1 r1 - q.2.2.1.length) q.2.1).2)) (fun q => num 1 r1 - q.2.2.1.length)
    (.slice ao4 r4.2.length ca4, r4, [], [], none, 0, h1) ⟨Nat.zero_le _, K.Base.le.refl _, hb4, g4, ⟨rfl, (fun e he => by cases he), fun j c x hc => by cases hc⟩, rfl⟩ (by repeat (first | exact K.Sub.nil _ | refine K.Sub.cons rfl ?_)) rfl rfl ?_
   rintro ⟨sv, ⟨ok, rem⟩, m, es, c, cap, h2⟩ ⟨hm, hle, hbv, hg, hrow, hcr⟩ KL hKL
   dsimp only at hm hle hbv hg hrow hcr ⊢
   obtain ⟨aor, car, rfl⟩ := hbv.len
   simp only [qA]
   by_cases hml : m.length < num 1 r1
   ·cases ok with
    | false =>
     (repeat' first | refine X.rq ?_ | refine X.rc ?_ ?_ <;> intro hc <;> try omega)
     refine K.a_join hJ (.slice aor rem.length car, (false, rem), m, es, c, cap, h2) ⟨hle, hbv, hg, hrow, hm, ?_⟩ (by repeat (first | exact K.Sub.nil _ | refine K.Sub.cons rfl ?_)) rfl rfl
     rw [hcr, cellsR_no, List.append_nil]
    | true =>
     (repeat' first | refine X.rq ?_ | refine X.rc ?_ ?_ <;> intro hc <;> try omega)
     refine K.l_alloc (Fx.zr rfl) rfl rfl (fun B8 => ?_)
     refine X.stw ?_
     simp only [Go.K.nmz]
     (repeat' first | refine X.rq ?_ | refine X.rc ?_ ?_ <;> intro hc <;> try omega)
     refine K.l_call (vals := [qv B4, .int .i64 2]) (Fx.cal rfl) rfl (E_Fixed h2 B4 _ (true, rem) 2 hbv hg (by decide)) (K.pp [2] rfl) rfl ?_
     rintro u h' H' - ⟨rfl, rfl, sv7, hb7, rfl⟩
     obtain ⟨ao7, ca7, rfl⟩ := hb7.len
     have n7 := num_lt 2 (true, rem)
     have g7 : (nxt 2 (true, rem)).2.length ≤ big := Nat.le_trans (nxt_len 2 (true, rem)) hg
     simp only [Go.K.nmz]
     refine K.s_pure X.cv rfl ?_
     refine K.s_pure X.sg rfl ?_
     refine X.l ?_
     refine X.a ?_
     refine X.w ?_
     refine K.c_join (β := Value × Option Addr × Nat × Base) (fun q => [(0, .slice ao b.length ca), (2, .pointer (some ⟨B2, 0, none⟩)), (3, .bool false), (4, .pointer (some ⟨B4, 0, none⟩)), (5, .pointer (some ⟨B5, 0, none⟩)), (6, .int .i64 (num 1 r1 : Nat)), (7, .int .i64 m.length), (8, .pointer (some ⟨B8, 0, none⟩))]) (fun q => q.2.2.2)
      (fun q => qA B4 q.1 (!(cellQ (true, rem)).2.1) :: blk B8 120 [.bool (cellQ (true, rem)).1.used, .int .u32 (cellQ (true, rem)).1.killer, .slice q.2.1 (cellQ (true, rem)).1.data.length q.2.2.1] :: bufA 120 3 c m.length cap es.flatten :: blk B5 41 (cP ⟨(num 1 (true, b.drop 4) : Nat), num 8 r2, num 4 r3, []⟩ (bufV c m.length cap)) :: blk B2 41 (cP zPd (.slice none 0 0)) :: F)
      (fun q => h2.le q.2.2.2 ∧ BV q.2.2.2 q.1 (cellQ (true, rem)).2.2 ∧ CellC q.2.2.2 [.bool (cellQ (true, rem)).1.used, .int .u32 (cellQ (true, rem)).1.killer, .slice q.2.1 (cellQ (true, rem)).1.data.length q.2.2.1] (cellQ (true, rem)).1) (fun KC hC => ?_) ?_
     ·by_cases hz : num 2 (true, rem) = 0
      ·have hcq : cellQ (true, rem) = (⟨false, 0, []⟩, nxt 2 (true, rem)) := by unfold cellQ; rw [if_pos hz]
       rw [hcq] at hC
       (repeat' first | refine X.rq ?_ | refine X.rc ?_ ?_ <;> intro hc <;> try omega)
       refine K.a_join hC (.slice ao7 (nxt 2 (true, rem)).2.length ca7, none, 0, h2) ⟨K.Base.le.refl _, hb7, cell_zd h2⟩ (by repeat (first | exact K.Sub.nil _ | refine K.Sub.cons rfl ?_)) rfl rfl
      ·have hcq : cellQ (true, rem) = (⟨true, num 4 (nxt 2 (true, rem)), tk (nxt 4 (nxt 2 (true, rem))).1 (nxt 4 (nxt 2 (true, rem))).2 (num 2 (true, rem) : Nat)⟩, (tkOk (nxt 4 (nxt 2 (true, rem))).1 (nxt 4 (nxt 2 (true, rem))).2 (num 2 (true, rem) : Nat), tkRem (nxt 4 (nxt 2 (true, rem))).1 (nxt 4 (nxt 2 (true, rem))).2 (num 2 (true, rem) : Nat))) := by unfold cellQ; rw [if_neg hz]
       rw [hcq] at hC
       (repeat' first | refine X.rq ?_ | refine X.rc ?_ ?_ <;> intro hc <;> try omega)
       refine X.sto ?_
       simp only [Go.K.nmz]
       (repeat' first | refine X.rq ?_ | refine X.rc ?_ ?_ <;> intro hc <;> try omega)
       refine K.l_call (vals := [qv B4, .int .i64 4]) (Fx.cal rfl) rfl (E_Fixed h2 B4 _ (nxt 2 (true, rem)) 4 hb7 g7 (by decide)) (K.pp [0] rfl) rfl ?_
       rintro u h' H' - ⟨rfl, rfl, sv8, hb8, rfl⟩
       obtain ⟨ao8, ca8, rfl⟩ := hb8.len
       have n8 := num_lt 4 (nxt 2 (true, rem))
       have g8 : (nxt 4 (nxt 2 (true, rem))).2.length ≤ big := Nat.le_trans (nxt_len 4 _) g7
       simp only [Go.K.nmz]
       (repeat' first | refine X.rq ?_ | refine X.rc ?_ ?_ <;> intro hc <;> try omega)
       refine X.sto ?_
       simp only [Go.K.nmz]
       (repeat' first | refine X.rq ?_ | refine X.rc ?_ ?_ <;> intro hc <;> try omega)
       refine K.l_call (vals := [qv B4, .int .i64 (num 2 (true, rem) : Nat)]) (Fx.cal rfl) rfl (Q_Take h2 B4 _ (nxt 4 (nxt 2 (true, rem))).1 (nxt 4 (nxt 2 (true, rem))).2 (num 2 (true, rem) : Nat) hb8 g8 (by omega) (by omega)) (K.pp [0] rfl) rfl ?_
       rintro u h' H' - ⟨rfl, a9, cap9, sv9, rfl, hb9, rfl⟩
       obtain ⟨ao9, ca9, rfl⟩ := hb9.len
       have hlen9 : (tk (nxt 4 (nxt 2 (true, rem))).1 (nxt 4 (nxt 2 (true, rem))).2 (num 2 (true, rem) : Nat)).length ≤ 65535 := by
        unfold tk
        split
        ·rw [List.length_take, Int.toNat_natCast]; omega
        ·exact Nat.zero_le _
       generalize tk (nxt 4 (nxt 2 (true, rem))).1 (nxt 4 (nxt 2 (true, rem))).2 (num 2 (true, rem) : Nat) = dat at hC hlen9 ⊢
       simp only [Go.K.nmz]
       refine K.WL.freezeBuf (fun h3 le3 hbd => ?_)
       obtain ⟨aod, cad, ed⟩ : ∃ ao ca, bufV a9 dat.length cap9 = .slice ao dat.length ca := ⟨_, _, rfl⟩
       rw [ed] at hbd ⊢
       (repeat' first | refine X.rq ?_ | refine X.rc ?_ ?_ <;> intro hc <;> try omega)
       refine X.sto ?_
       simp only [Go.K.nmz]
       (repeat' first | refine X.rq ?_ | refine X.rc ?_ ?_ <;> intro hc <;> try omega)
       refine K.a_join hC (_, aod, cad, h3) ⟨le3, hb9.le le3, n8, by show dat.length ≤ _; omega, aod, cad, rfl, hbd⟩ (by repeat (first | exact K.Sub.nil _ | refine K.Sub.cons rfl ?_)) rfl rfl
     ·rintro ⟨sv1, aox, cax, h3⟩ ⟨le3, hb1, hcx⟩
      dsimp only at le3 hb1 hcx ⊢
      have hg1 : (cellQ (true, rem)).2.2.length ≤ big := Nat.le_trans (cellQ_len _) hg
      have hcs : cellsR (num 1 r1) r4 = ((m ++ [(cellQ (true, rem)).1]) ++ (cellsR (num 1 r1 - (m.length + 1)) (cellQ (true, rem)).2).1, (cellsR (num 1 r1 - (m.length + 1)) (cellQ (true, rem)).2).2) := by
       rw [hcr, show num 1 r1 - m.length = (num 1 r1 - (m.length + 1)) + 1 by omega, cellsR, if_pos rfl, List.append_assoc]
       rfl
      generalize cellQ (true, rem) = xr at hb1 hcx hg1 hcs ⊢
      obtain ⟨x, rt⟩ := xr
      dsimp only at hb1 hcx hg1 hcs ⊢
      (repeat' first | refine X.rq ?_ | refine X.rc ?_ ?_ <;> intro hc <;> try omega)
      refine K.l_buildSlice (Fx.und rfl) (Fx.sz rfl) rfl (Fx.zr rfl) rfl rfl rfl (cs := [.bool x.used, .int .u32 x.killer, .slice aox x.data.length cax]) rfl rfl (fun B10 => ?_)
      refine K.l_append_at 3 rfl (Fx.und rfl) (Fx.und rfl) rfl (Fx.sz rfl) (Fx.zr rfl) rfl (Fx.byt rfl) rfl rfl (K.src_cells (K.cels_own (pre := []) (cs := [.bool x.used, .int .u32 x.killer, .slice aox x.data.length cax]) (post := []) 0 rfl rfl) rfl (by simp [oneCell])) (by omega) (by omega) rfl (fun a6 cap6 => ?_)
      simp only [Go.K.nmz]
      (repeat' first | refine X.rq ?_ | refine X.rc ?_ ?_ <;> intro hc <;> try omega)
      refine X.sto ?_
      simp only [Go.K.nmz]
      (repeat' first | refine X.rq ?_ | refine X.rc ?_ ?_ <;> intro hc <;> try omega)
      refine K.AT.sel [0, 1] rfl ?_
      refine K.AT.perm (K.pp [1] rfl) ?_
      simp only [Go.K.nmz]
      refine K.a_round hKL (sv1, rt, m ++ [x], es ++ [[.bool x.used, .int .u32 x.killer, .slice aox x.data.length cax]], a6, cap6, h3) ⟨by dsimp only; rw [List.length_append, List.length_singleton]; omega, hle.trans le3, hb1, hg1, (hrow.le le3).snoc hcx, ?_⟩ ?_ rfl ?_ (by dsimp only; rw [List.length_append, List.length_singleton]; omega)
      ·dsimp only
       rw [hcs, List.length_append, List.length_singleton]
      ·dsimp only
       rw [List.length_append, List.length_singleton]
       exact (by repeat (first | exact K.Sub.nil _ | refine K.Sub.cons rfl ?_))
      ·dsimp only
       rw [List.length_append, List.length_singleton, List.flatten_append, List.flatten_cons, List.flatten_nil, List.append_nil]
       rfl
   ·(repeat' first | refine X.rq ?_ | refine X.rc ?_ ?_ <;> intro hc <;> try omega)
    refine K.a_join hJ (.slice aor rem.length car, (ok, rem), m, es, c, cap, h2) ⟨hle, hbv, hg, hrow, hm, ?_⟩ (by repeat (first | exact K.Sub.nil _ | refine K.Sub.cons rfl ?_)) rfl rfl
    rw [hcr, show num 1 r1 - m.length = 0 by omega]
    show (_ ++ [], _) = _
    rw [List.append_nil]
    rfl
  ·rintro ⟨sv, ⟨ok, rem⟩, m, es, c, cap, h2⟩ ⟨hle, hbv, hg, hrow, hm, hcr⟩
   dsimp only at hle hbv hg hrow hm hcr ⊢
   obtain ⟨aor, car, rfl⟩ := hbv.len
   simp only [qA]
   have hreadq : readQ (true, b.drop 4) = (⟨(num 1 (true, b.drop 4) : Nat), num 8 r2, num 4 r3, m⟩, (ok, rem)) := by rw [hread, hcr]
   rw [← hrow.1]
   refine K.AT.freezeRow (fun e he => hrow.2.1 e he) (fun h3 le3 hsl3 hcap3 => ?_)
   have hwf := readQ_wf (true, b.drop 4)
   rw [hreadq] at hwf
   have hp3 := page_of_row hwf hsl3 (hrow.le le3)
   obtain ⟨aop, cap2, ep⟩ : ∃ ao ca, bufV c es.length cap = .slice ao es.length ca := ⟨_, _, rfl⟩
   rw [ep] at hp3 ⊢
   have hle3 := (le1.trans hle).trans le3
   (repeat' first | refine X.rq ?_ | refine X.rc ?_ ?_ <;> intro hc <;> try omega)
   cases ok with
   | false =>
    have hres : rdecQ b = (zPd, false) := by
     unfold rdecQ
     rw [if_neg]
     rintro ⟨_, h2, _⟩
     rw [hreadq] at h2; cases h2
    refine X.draw ([blk B4 117 [.slice aor rem.length car, .bool (!false)]]) [] (.pu 0 (.pu 1 (.pu 2 (.st 3 (.pu 4 (.pu 8 (.pu 9 (.st 5 (.on 6 (.pu 7 (.pu 10 (.pu 11 .nil)))))))))))) ?_
    refine K.d_pu rfl (fun _ _ => X.mv) rfl ?_
    refine K.d_pu rfl (fun _ _ => X.nc) rfl ?_
    refine K.d_pu rfl (fun _ _ => X.fa) rfl ?_
    refine K.d_st rfl X.ld rfl ?_
    refine K.d_pu rfl (fun _ _ => X.mv) rfl ?_
    first | refine K.d_skip rfl rfl rfl rfl ?_ | refine K.d_skipU rfl rfl rfl rfl rfl ?_ | refine K.d_puG rfl rfl rfl (fun _ _ => X.mv) rfl ?_
    first | refine K.d_skip rfl rfl rfl rfl ?_ | refine K.d_skipU rfl rfl rfl rfl rfl ?_ | refine K.d_puG rfl rfl rfl (fun _ _ => X.cv) rfl ?_
    first | refine K.d_skipS rfl rfl rfl rfl ?_ | refine K.d_skipUS rfl rfl rfl rfl rfl ?_ | refine K.d_stG rfl rfl rfl X.ld rfl ?_
    refine K.d_on rfl (fun KK hKK => ?_)
    first | refine K.s_skip rfl rfl rfl ?_ | refine K.s_skipU rfl rfl rfl rfl ?_
    refine K.l_nil ?_
    refine X.onE hKK ?_
    first | refine K.d_skip rfl rfl rfl rfl ?_ | refine K.d_skipU rfl rfl rfl rfl rfl ?_ | refine K.d_puG rfl rfl rfl (fun _ _ => X.cv) rfl ?_
    first | refine K.d_skip rfl rfl rfl rfl ?_ | refine K.d_skipU rfl rfl rfl rfl rfl ?_ | refine K.d_puG rfl rfl rfl (fun _ _ => X.bneq) rfl ?_
    refine K.d_pu rfl (fun _ _ => X.pk) rfl ?_
    refine K.d_nil ?_
    (repeat' first | refine X.rq ?_ | refine X.rc ?_ ?_ <;> intro hc <;> try omega)
    refine K.WL.perm (K.pp [2] rfl) ?_
    simp only [Go.K.nmz]
    refine X.stw ?_
    simp only [Go.K.nmz]
    (repeat' first | refine X.rq ?_ | refine X.rc ?_ ?_ <;> intro hc <;> try omega)
    refine K.dc (.cell rfl (Fx.agg rfl) (Fx.sz rfl) (by first | exact K.cels_own (pre := []) (post := []) 0 rfl rfl | exact K.cels_own (pre := []) (post := []) 1 rfl rfl | exact K.cels_own (pre := []) (post := []) 2 rfl rfl | exact K.cels_own (pre := []) (post := []) 3 rfl rfl | exact K.cels_own (pre := []) (post := []) 4 rfl rfl | exact K.cels_own (pre := []) (post := []) 5 rfl rfl) (.tmp rfl .nil)) (by first | exact K.Base.le.refl _ | assumption) (vs := [.agg (cP zPd (.slice none 0 0)).toArray, .bool false]) (D := [_, _, _]) (H' := []) rfl (by rw [hres]; exact ⟨_, rfl, hz _, rfl⟩)
   | true =>
    have hb3 := hb.le hle3
    have henc := REncode h3 _ _ hp3
    refine X.draw ([blk B4 117 [.slice aor rem.length car, .bool (!true)], blk B5 41 (cP ⟨(num 1 (true, b.drop 4) : Nat), num 8 r2, num 4 r3, []⟩ (.slice aop es.length cap2))]) [] (.pu 0 (.pu 1 (.pu 2 (.st 3 (.pu 4 (.pu 8 (.st 5 (.st 9 (.on 6 (.st 7 (.pu 10 (.pu 11 .nil)))))))))))) ?_
    refine K.d_pu rfl (fun _ _ => X.mv) rfl ?_
    refine K.d_pu rfl (fun _ _ => X.nc) rfl ?_
    refine K.d_pu rfl (fun _ _ => X.fa) rfl ?_
    refine K.d_st rfl X.ld rfl ?_
    refine K.d_pu rfl (fun _ _ => X.mv) rfl ?_
    first | refine K.d_skip rfl rfl rfl rfl ?_ | refine K.d_skipU rfl rfl rfl rfl rfl ?_ | refine K.d_puG rfl rfl rfl (fun _ _ => X.mv) rfl ?_
    first | refine K.d_skipS rfl rfl rfl rfl ?_ | refine K.d_skipUS rfl rfl rfl rfl rfl ?_ | refine K.d_stG rfl rfl rfl X.ld rfl ?_
    refine K.d_stG rfl rfl rfl (K.p_textB hb3 (Fx.und rfl) (Fx.und rfl) (Fx.und rfl) rfl) rfl ?_
    refine K.d_on rfl (fun KK hKK => ?_)
    refine K.s_take rfl rfl ?_
    refine K.l_call (Fx.cal rfl) rfl henc (K.pp [] rfl) rfl ?_
    rintro u h' H' - ⟨rfl, a8, cap8, rfl, rfl⟩
    simp only [List.cons_append, List.nil_append]
    refine K.WL.freezeBuf (fun h4 le4 hbv4 => ?_)
    refine K.l_nil ?_
    refine X.onS hKK [blk B4 117 [.slice aor rem.length car, .bool (!true)], blk B5 41 (cP ⟨↑(num 1 (true, b.drop 4)), num 8 r2, num 4 r3, []⟩ (.slice aop es.length cap2))] ?_
    refine K.d_stG rfl rfl rfl (K.p_textB hbv4 (Fx.und rfl) (Fx.und rfl) (Fx.und rfl) rfl) rfl ?_
    first | refine K.d_skip rfl rfl rfl rfl ?_ | refine K.d_skipU rfl rfl rfl rfl rfl ?_ | refine K.d_puG rfl rfl rfl (fun _ _ => X.bneq) rfl ?_
    refine K.d_pu rfl (fun _ _ => X.pk) rfl ?_
    refine K.d_nil ?_
    have hle4 := hle3.trans le4
    (repeat' first | refine X.rq ?_ | refine X.rc ?_ ?_ <;> intro hc <;> try omega)
    ·have hres : rdecQ b = (zPd, false) := by
      unfold rdecQ
      rw [if_neg]
      rintro ⟨_, _, h3⟩
      rw [hreadq] at h3
      exact hc (by rw [h3])
     refine K.WL.perm (K.pp [2] rfl) ?_
     simp only [Go.K.nmz]
     refine X.stw ?_
     simp only [Go.K.nmz]
     (repeat' first | refine X.rq ?_ | refine X.rc ?_ ?_ <;> intro hc <;> try omega)
     refine K.dc (.cell rfl (Fx.agg rfl) (Fx.sz rfl) (by first | exact K.cels_own (pre := []) (post := []) 0 rfl rfl | exact K.cels_own (pre := []) (post := []) 1 rfl rfl | exact K.cels_own (pre := []) (post := []) 2 rfl rfl | exact K.cels_own (pre := []) (post := []) 3 rfl rfl | exact K.cels_own (pre := []) (post := []) 4 rfl rfl | exact K.cels_own (pre := []) (post := []) 5 rfl rfl) (.tmp rfl .nil)) (by first | exact K.Base.le.refl _ | assumption) (vs := [.agg (cP zPd (.slice none 0 0)).toArray, .bool false]) (D := [_, _, _]) (H' := []) rfl (by rw [hres]; exact ⟨_, rfl, hz _, rfl⟩)
    ·have hres : rdecQ b = (⟨(num 1 (true, b.drop 4) : Nat), num 8 r2, num 4 r3, m⟩, true) := by
      have hP : rdecP b := ⟨h512, by rw [hreadq], by rw [hreadq]; exact (text_ne _ _).1 (Decidable.byContradiction fun e => hc e)⟩
      unfold rdecQ
      rw [if_pos hP, hreadq]
     refine K.WL.perm (K.pp [2] rfl) ?_
     simp only [Go.K.nmz]
     refine X.stw ?_
     simp only [Go.K.nmz]
     (repeat' first | refine X.rq ?_ | refine X.rc ?_ ?_ <;> intro hc <;> try omega)
     refine K.dc (.cell rfl (Fx.agg rfl) (Fx.sz rfl) (by first | exact K.cels_own (pre := []) (post := []) 0 rfl rfl | exact K.cels_own (pre := []) (post := []) 1 rfl rfl | exact K.cels_own (pre := []) (post := []) 2 rfl rfl | exact K.cels_own (pre := []) (post := []) 3 rfl rfl | exact K.cels_own (pre := []) (post := []) 4 rfl rfl | exact K.cels_own (pre := []) (post := []) 5 rfl rfl) (.tmp rfl .nil)) (by first | exact K.Base.le.refl _ | assumption) (vs := [.agg (cP ⟨(num 1 (true, b.drop 4) : Nat), num 8 r2, num 4 r3, []⟩ (.slice aop es.length cap2)).toArray, .bool true]) (D := [_, _, _]) (H' := []) rfl (by rw [hres]; exact ⟨_, rfl, hp3.le le4, rfl⟩)
 ·have hres : rdecQ b = (zPd, false) := by
   unfold rdecQ
   rw [if_neg (fun e => h512 e.1)]
  (repeat' first | refine X.rq ?_ | refine X.rc ?_ ?_ <;> intro hc <;> try omega)
  refine X.stw ?_
  simp only [Go.K.nmz]
  (repeat' first | refine X.rq ?_ | refine X.rc ?_ ?_ <;> intro hc <;> try omega)
  refine K.dc (.cell rfl (Fx.agg rfl) (Fx.sz rfl) (by first | exact K.cels_own (pre := []) (post := []) 0 rfl rfl | exact K.cels_own (pre := []) (post := []) 1 rfl rfl | exact K.cels_own (pre := []) (post := []) 2 rfl rfl | exact K.cels_own (pre := []) (post := []) 3 rfl rfl | exact K.cels_own (pre := []) (post := []) 4 rfl rfl | exact K.cels_own (pre := []) (post := []) 5 rfl rfl) (.tmp rfl .nil)) (by first | exact K.Base.le.refl _ | assumption) (vs := [.agg (cP zPd (.slice none 0 0)).toArray, .bool false]) (D := [_]) (H' := []) rfl (by rw [hres]; exact ⟨_, rfl, hz _, rfl⟩)
end Go.Proofs.YtijbhgiigddjdaaGreat.Pg
