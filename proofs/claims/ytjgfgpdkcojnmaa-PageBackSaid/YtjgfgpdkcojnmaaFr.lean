/-
  The bytes of a page, by the document. Conditions: each theorem's own.
-/
import Derived.Test.YtjgfgpdkcojnmaaFo
import Derived.Test.YtjgfgpdkcojnmaaRa

namespace Go.Proofs.Ytjgfgpdkcojnmaa.Pg
open Go Go.K Go.Proofs Go.Proofs.Ytjgfgpdkcojnmaa Go.Proofs.Ytjgfgpdkcojnmaa.Ra
set_option linter.unusedVariables false
set_option linter.unusedSimpArgs false
set_option maxRecDepth 10000

theorem two_u8 {k n : Nat} (hk : k < 256) (hn : n < 256) : [Value.int .u8 (k : Int), Value.int .u8 (n : Int)] = (lebs k 1 ++ lebs n 1).map u8 := by
  simp [lebs, u8, UInt8.toNat_ofNat', Nat.mod_eq_of_lt hk, Nat.mod_eq_of_lt hn]
theorem u8_ones (l : List UInt8) : ∀ u ∈ l.map u8, oneCell u = true := fun u hu => by
  obtain ⟨c, _, rfl⟩ := List.mem_map.1 hu
  rfl
section
variable {n : Nat} {Q : Exit → Act → World → Prop} {E : Env} {h : Base} {H R : List Asrt} {ops : Array Oper} {rest : List Oper} {t t2 ty : TypeId} {ps : String} {af : Array Edge} {d : Nat} {x y : Operand}
/-- Owned bytes appended to owned bytes; the appended ones' row goes. -/
theorem l_appBB {a a2 : Option Nat} {cap cap2 : Nat} {l l2 : List UInt8} (hu : Try.prog.underlying t = some (.slice 5)) (hu2 : Try.prog.underlying t2 = some (.slice 5)) (hx : lkO E x = some (bufV a l.length cap)) (hy : lkO E y = some (bufV a2 l2.length cap2))
    (hl : l.length + l2.length ≤ 1000000000) (hd : Nat.blt d n = true) (hk : ∀ a' cap', WL Try.prog n ops Q rest ((d, bufV a' (l ++ l2).length cap') :: E) h (bufA 5 1 a' (l ++ l2).length cap' ((l ++ l2).map u8) :: R)) :
    WL Try.prog n ops Q (⟨some d, .call ⟨.builtin .append, #[x, y], #[t, t2]⟩, ty, ps, af, none⟩ :: rest) E h (bufA 5 1 a2 l2.length cap2 (l2.map u8) :: bufA 5 1 a l.length cap (l.map u8) :: R) := by
  refine K.l_append_at (e := 5) 1 rfl hu hu2 rfl (Fx.sz rfl) (Fx.zr rfl) rfl (Fx.byt rfl) hx hy (K.src_buf 0 rfl (u8_ones l2) (by simp)) (by omega) (by omega) hd (fun a' cap' => ?_)
  simp only [List.set_cons_zero, List.set_cons_succ, List.eraseIdx_cons_zero, List.eraseIdx_cons_succ, List.cons_append, List.nil_append]
  refine K.WL.drop ?_
  have := hk a' cap'
  rw [List.length_append, List.map_append] at this
  exact this
/-- Bytes of the base appended to owned bytes. -/
theorem l_appBV {a : Option Nat} {cap : Nat} {l l2 : List UInt8} {v : Value} (hb : BV h v l2) (hu : Try.prog.underlying t = some (.slice 5)) (hu2 : Try.prog.underlying t2 = some (.slice 5)) (hx : lkO E x = some (bufV a l.length cap)) (hy : lkO E y = some v)
    (hl : l.length + l2.length ≤ 1000000000) (hd : Nat.blt d n = true) (hk : ∀ a' cap', WL Try.prog n ops Q rest ((d, bufV a' (l ++ l2).length cap') :: E) h (bufA 5 1 a' (l ++ l2).length cap' ((l ++ l2).map u8) :: R)) :
    WL Try.prog n ops Q (⟨some d, .call ⟨.builtin .append, #[x, y], #[t, t2]⟩, ty, ps, af, none⟩ :: rest) E h (bufA 5 1 a l.length cap (l.map u8) :: R) := by
  refine K.l_append_at (e := 5) 0 rfl hu hu2 rfl (Fx.sz rfl) (Fx.zr rfl) rfl (Fx.byt rfl) hx hy hb.src (by omega) (by omega) hd (fun a' cap' => ?_)
  simp only [List.set_cons_zero, List.set_cons_succ, List.eraseIdx_cons_zero, List.eraseIdx_cons_succ, List.cons_append, List.nil_append]
  have := hk a' cap'
  rw [List.length_append, List.map_append] at this
  exact this
end
set_option maxHeartbeats 4000000 in
theorem REncode (h : Base) (cs : List Value) (p : Pag) (hx : PagC h cs p) : Tr Try.prog 24 [.agg cs.toArray] h [] (Gave h (encQ p).1) := by
  have hmay := RMay h _ p hx
  obtain ⟨hw, cv, rfl, es, hv, hel, hr⟩ := hx
  obtain ⟨ao, ca, rfl⟩ := hv.len
  rw [hel] at hv hmay ⊢
  refine K.enter Try.func24 rfl (Nat.le_of_ble_eq_true rfl) (fun F => ?_)
  (repeat' (first | (apply K.s_pure; (first | (apply Y.mv; exact X.mv) | (apply Y.sg; exact X.sg) | (apply Y.cv; exact X.cv) | (apply Y.fa; exact X.fa) | (apply Y.ld; exact X.ld) | (apply Y.ia; exact X.ia) | (apply Y.len; exact X.len) | (apply Y.nt; exact X.nt) | (apply Y.badd; exact X.badd) | (apply Y.blss; exact X.blss)); exact rfl) | refine X.l ?_ | refine X.w ?_ | refine X.a ?_ | (refine K.c_condD rfl (fun hc => ?_) (fun hc => ?_) <;> first | (exfalso; omega) | skip) | refine K.c_cond rfl (fun hc => ?_) (fun hc => ?_)))
  refine K.l_box rfl rfl rfl (fun B1 => ?_)
  (repeat' (first | (apply K.s_pure; (first | (apply Y.mv; exact X.mv) | (apply Y.sg; exact X.sg) | (apply Y.cv; exact X.cv) | (apply Y.fa; exact X.fa) | (apply Y.ld; exact X.ld) | (apply Y.ia; exact X.ia) | (apply Y.len; exact X.len) | (apply Y.nt; exact X.nt) | (apply Y.badd; exact X.badd) | (apply Y.blss; exact X.blss)); exact rfl) | refine X.l ?_ | refine X.w ?_ | refine X.a ?_ | (refine K.c_condD rfl (fun hc => ?_) (fun hc => ?_) <;> first | (exfalso; omega) | skip) | refine K.c_cond rfl (fun hc => ?_) (fun hc => ?_)))
  refine K.l_callV (Fx.cal rfl) rfl hmay (K.pp [] rfl) rfl rfl ?_
  simp only [List.nil_append]
  cases hm : mayQ p with
  | false =>
    rw [show encQ p = ([], 5) by rw [encQ, if_neg (by rw [hm]; decide)]]
    (repeat' (first | (apply K.s_pure; (first | (apply Y.mv; exact X.mv) | (apply Y.sg; exact X.sg) | (apply Y.cv; exact X.cv) | (apply Y.fa; exact X.fa) | (apply Y.ld; exact X.ld) | (apply Y.ia; exact X.ia) | (apply Y.len; exact X.len) | (apply Y.nt; exact X.nt) | (apply Y.badd; exact X.badd) | (apply Y.blss; exact X.blss)); exact rfl) | refine X.l ?_ | refine X.w ?_ | refine X.a ?_ | (refine K.c_condD rfl (fun hc => ?_) (fun hc => ?_) <;> first | (exfalso; omega) | skip) | refine K.c_cond rfl (fun hc => ?_) (fun hc => ?_)))
    refine K.AT.drop ?_
    refine K.AT.nilBuf 5 1 ?_
    refine K.done (by first | exact Or.inl rfl | exact Or.inr rfl) rfl (by first | exact K.Base.le.refl _ | assumption) (H' := [bufA 5 1 none 0 0 []]) rfl ⟨rfl, none, 0, rfl, rfl⟩
  | true =>
    rw [show encQ p = (encB p, 0) by rw [encQ, if_pos hm]]
    obtain ⟨⟨hk1, hk3⟩, h60, hcells, hz512⟩ := (mayQ_iff p).1 hm
    have hbl := bodyB_le hm
    obtain ⟨k, hk⟩ : ∃ k : Nat, p.kind = k := ⟨p.kind.toNat, by omega⟩
    have hkn : p.kind.toNat = k := by omega
    have hwl := hw.lsn
    have hwn := hw.next
    have hok := may_ok hm
    have hbody : bodyB p = lebs k 1 ++ lebs p.cells.length 1 ++ lebs p.lsn 8 ++ lebs p.next 4 ++ cellsB p.cells := by rw [bodyB, hkn]
    have hll1 : ∀ j, (cellsB (p.cells.take j)).length ≤ 1000 := fun j => by
      rw [cellsB_len fun x hx => hok x (List.mem_of_mem_take hx)]
      have h1 := sizeS_append (p.cells.take j) (p.cells.drop j)
      rw [List.take_append_drop] at h1
      unfold sizeQ at hz512
      omega
    (repeat' (first | (apply K.s_pure; (first | (apply Y.mv; exact X.mv) | (apply Y.sg; exact X.sg) | (apply Y.cv; exact X.cv) | (apply Y.fa; exact X.fa) | (apply Y.ld; exact X.ld) | (apply Y.ia; exact X.ia) | (apply Y.len; exact X.len) | (apply Y.nt; exact X.nt) | (apply Y.badd; exact X.badd) | (apply Y.blss; exact X.blss)); exact rfl) | refine X.l ?_ | refine X.w ?_ | refine X.a ?_ | (refine K.c_condD rfl (fun hc => ?_) (fun hc => ?_) <;> first | (exfalso; omega) | skip) | refine K.c_cond rfl (fun hc => ?_) (fun hc => ?_)))
    refine X.bs (fun B16 => ?_)
    rw [hk, two_u8 (by omega) (by omega)]
    refine K.WL.bufOf (m := 2) (s := 1) (by simp [lebs_length]) (by unfold maxLen; omega) ?_
    (repeat' (first | (apply K.s_pure; (first | (apply Y.mv; exact X.mv) | (apply Y.sg; exact X.sg) | (apply Y.cv; exact X.cv) | (apply Y.fa; exact X.fa) | (apply Y.ld; exact X.ld) | (apply Y.ia; exact X.ia) | (apply Y.len; exact X.len) | (apply Y.nt; exact X.nt) | (apply Y.badd; exact X.badd) | (apply Y.blss; exact X.blss)); exact rfl) | refine X.l ?_ | refine X.w ?_ | refine X.a ?_ | (refine K.c_condD rfl (fun hc => ?_) (fun hc => ?_) <;> first | (exfalso; omega) | skip) | refine K.c_cond rfl (fun hc => ?_) (fun hc => ?_)))
    refine K.l_call (Fx.cal rfl) rfl (Fixed h p.lsn 8 hwl (by omega)) (K.pp [] rfl) rfl ?_
    rintro u h' H' - ⟨rfl, a2, cap2, rfl, rfl⟩
    simp only [List.cons_append, List.nil_append]
    refine l_appBB (l := lebs k 1 ++ lebs p.cells.length 1) (Fx.und rfl) (Fx.und rfl) rfl rfl (by simp [lebs_length]) rfl (fun a3 cap3 => ?_)
    obtain ⟨l3, hl3⟩ : ∃ l3, l3 = lebs k 1 ++ lebs p.cells.length 1 ++ lebs p.lsn 8 := ⟨_, rfl⟩
    have hl3n : l3.length = 10 := by rw [hl3]; simp [lebs_length]
    rw [← hl3]
    rw [← hl3] at hbody
    (repeat' (first | (apply K.s_pure; (first | (apply Y.mv; exact X.mv) | (apply Y.sg; exact X.sg) | (apply Y.cv; exact X.cv) | (apply Y.fa; exact X.fa) | (apply Y.ld; exact X.ld) | (apply Y.ia; exact X.ia) | (apply Y.len; exact X.len) | (apply Y.nt; exact X.nt) | (apply Y.badd; exact X.badd) | (apply Y.blss; exact X.blss)); exact rfl) | refine X.l ?_ | refine X.w ?_ | refine X.a ?_ | (refine K.c_condD rfl (fun hc => ?_) (fun hc => ?_) <;> first | (exfalso; omega) | skip) | refine K.c_cond rfl (fun hc => ?_) (fun hc => ?_)))
    refine K.l_call (Fx.cal rfl) rfl (Fixed h p.next 4 (by omega) (by omega)) (K.pp [] rfl) rfl ?_
    rintro u h' H' - ⟨rfl, a4, cap4, rfl, rfl⟩
    simp only [List.cons_append, List.nil_append]
    refine l_appBB (Fx.und rfl) (Fx.und rfl) rfl rfl (by rw [lebs_length]; omega) rfl (fun a5 cap5 => ?_)
    obtain ⟨l5, hl5⟩ : ∃ l5, l5 = l3 ++ lebs p.next 4 := ⟨_, rfl⟩
    have hl5n : l5.length = 14 := by rw [hl5]; simp [lebs_length, hl3n]
    rw [← hl5]
    rw [← hl5] at hbody
    (repeat' (first | (apply K.s_pure; (first | (apply Y.mv; exact X.mv) | (apply Y.sg; exact X.sg) | (apply Y.cv; exact X.cv) | (apply Y.fa; exact X.fa) | (apply Y.ld; exact X.ld) | (apply Y.ia; exact X.ia) | (apply Y.len; exact X.len) | (apply Y.nt; exact X.nt) | (apply Y.badd; exact X.badd) | (apply Y.blss; exact X.blss)); exact rfl) | refine X.l ?_ | refine X.w ?_ | refine X.a ?_ | (refine K.c_condD rfl (fun hc => ?_) (fun hc => ?_) <;> first | (exfalso; omega) | skip) | refine K.c_cond rfl (fun hc => ?_) (fun hc => ?_)))
    clear hl3 hl5
    refine K.c_loop (σ := Nat × Option Nat × Nat × List UInt8) (fun s => [(1, .pointer (some ⟨B1, 0, none⟩)), (3, bufV s.2.1 s.2.2.2.length s.2.2.1), (4, .int .i64 s.1)]) (fun _ => h) (fun s => bufA 5 1 s.2.1 s.2.2.2.length s.2.2.1 (s.2.2.2.map u8) :: blk B1 26 (cP p (.slice ao p.cells.length ca)) :: F)
      (fun s => s.1 ≤ p.cells.length ∧ s.2.2.2 = l5 ++ cellsB (p.cells.take s.1)) (fun s => p.cells.length - s.1) (0, a5, cap5, l5) ⟨Nat.zero_le _, by simp [cellsB]⟩ (by repeat (first | exact K.Sub.nil _ | refine K.Sub.cons rfl ?_)) rfl rfl ?_
    rintro ⟨j, a6, c6, l6⟩ ⟨hj, hl6⟩ KL hKL
    dsimp only at hj hl6 ⊢
    by_cases hjl : j < p.cells.length
    · have hc1 : es[j]? = some (es[j]'(by omega)) := List.getElem?_eq_getElem (by omega)
      have hc0 : es[((j : Nat) : Int).toNat]? = some (es[j]'(by omega)) := by rw [Int.toNat_natCast]; exact hc1
      have he1 : p.cells[j]? = some p.cells[j] := List.getElem?_eq_getElem hjl
      have hox := hok _ (List.getElem_mem hjl)
      have hat := cellsB_at he1
      have hlj := hll1 j
      generalize es[j]'(by omega) = c at hc0 hc1
      generalize p.cells[j] = x at he1 hox hat
      obtain ⟨hkl, hdl, ao3, ca3, rfl, hbv⟩ := hr j c x hc1 he1
      have hl6n : l6.length ≤ 1014 := by rw [hl6, List.length_append, hl5n]; omega
      have hxd : x.data.length ≤ 180 := by
        cases hu : x.used with
        | true => have := hox.1 hu; omega
        | false => have := hox.2 hu; omega
      (repeat' (first | (apply K.s_pure; (first | (apply Y.mv; exact X.mv) | (apply Y.sg; exact X.sg) | (apply Y.cv; exact X.cv) | (apply Y.fa; exact X.fa) | (apply Y.ld; exact X.ld) | (apply Y.ia; exact X.ia) | (apply Y.len; exact X.len) | (apply Y.nt; exact X.nt) | (apply Y.badd; exact X.badd) | (apply Y.blss; exact X.blss)); exact rfl) | refine X.l ?_ | refine X.w ?_ | refine X.a ?_ | (refine K.c_condD rfl (fun hc => ?_) (fun hc => ?_) <;> first | (exfalso; omega) | skip) | refine K.c_cond rfl (fun hc => ?_) (fun hc => ?_)))
      refine K.s_pureE (K.p_indexL hv (Fx.und rfl) (Fx.sz rfl) rfl rfl (by omega) hc0) rfl ?_
      rintro v2 ⟨b, o, rfl, hcel⟩
      refine K.s_pure (K.p_loadM (Fx.agg rfl) rfl (Cels.up hcel) (Fx.sz rfl) rfl) rfl ?_
      refine K.l_alloc (Fx.zr rfl) rfl rfl (fun B5 => ?_)
      refine X.stw ?_
      simp only [List.set_cons_zero, List.set_cons_succ, List.eraseIdx_cons_zero, List.eraseIdx_cons_succ, List.cons_append, List.nil_append]
      (repeat' (first | (apply K.s_pure; (first | (apply Y.mv; exact X.mv) | (apply Y.sg; exact X.sg) | (apply Y.cv; exact X.cv) | (apply Y.fa; exact X.fa) | (apply Y.ld; exact X.ld) | (apply Y.ia; exact X.ia) | (apply Y.len; exact X.len) | (apply Y.nt; exact X.nt) | (apply Y.badd; exact X.badd) | (apply Y.blss; exact X.blss)); exact rfl) | refine X.l ?_ | refine X.w ?_ | refine X.a ?_ | (refine K.c_condD rfl (fun hc => ?_) (fun hc => ?_) <;> first | (exfalso; omega) | skip) | refine K.c_cond rfl (fun hc => ?_) (fun hc => ?_)))
      refine K.l_call (Fx.cal rfl) rfl (Fixed h x.data.length 2 (by omega) (by omega)) (K.pp [] rfl) rfl ?_
      rintro u h' H' - ⟨rfl, a7, cap7, rfl, rfl⟩
      simp only [List.cons_append, List.nil_append]
      refine K.WL.perm (K.pp [0, 1, 0] rfl) ?_
      simp only [List.set_cons_zero, List.set_cons_succ, List.eraseIdx_cons_zero, List.eraseIdx_cons_succ, List.cons_append, List.nil_append]
      refine l_appBB (Fx.und rfl) (Fx.und rfl) rfl rfl (by rw [lebs_length]; omega) rfl (fun a8 cap8 => ?_)
      obtain ⟨l8, hl8⟩ : ∃ l8, l8 = l6 ++ lebs x.data.length 2 := ⟨_, rfl⟩
      have hl8n : l8.length ≤ 1016 := by rw [hl8, List.length_append, lebs_length]; omega
      rw [← hl8]
      cases hu : x.used with
      | true =>
        (repeat' (first | (apply K.s_pure; (first | (apply Y.mv; exact X.mv) | (apply Y.sg; exact X.sg) | (apply Y.cv; exact X.cv) | (apply Y.fa; exact X.fa) | (apply Y.ld; exact X.ld) | (apply Y.ia; exact X.ia) | (apply Y.len; exact X.len) | (apply Y.nt; exact X.nt) | (apply Y.badd; exact X.badd) | (apply Y.blss; exact X.blss)); exact rfl) | refine X.l ?_ | refine X.w ?_ | refine X.a ?_ | (refine K.c_condD rfl (fun hc => ?_) (fun hc => ?_) <;> first | (exfalso; omega) | skip) | refine K.c_cond rfl (fun hc => ?_) (fun hc => ?_)))
        refine K.l_call (Fx.cal rfl) rfl (Fixed h x.killer 4 (by omega) (by omega)) (K.pp [] rfl) rfl ?_
        rintro u h' H' - ⟨rfl, a9, cap9, rfl, rfl⟩
        simp only [List.cons_append, List.nil_append]
        refine l_appBB (Fx.und rfl) (Fx.und rfl) rfl rfl (by rw [lebs_length]; omega) rfl (fun a10 cap10 => ?_)
        obtain ⟨l9, hl9⟩ : ∃ l9, l9 = l8 ++ lebs x.killer 4 := ⟨_, rfl⟩
        have hl9n : l9.length ≤ 1020 := by rw [hl9, List.length_append, lebs_length]; omega
        rw [← hl9]
        (repeat' (first | (apply K.s_pure; (first | (apply Y.mv; exact X.mv) | (apply Y.sg; exact X.sg) | (apply Y.cv; exact X.cv) | (apply Y.fa; exact X.fa) | (apply Y.ld; exact X.ld) | (apply Y.ia; exact X.ia) | (apply Y.len; exact X.len) | (apply Y.nt; exact X.nt) | (apply Y.badd; exact X.badd) | (apply Y.blss; exact X.blss)); exact rfl) | refine X.l ?_ | refine X.w ?_ | refine X.a ?_ | (refine K.c_condD rfl (fun hc => ?_) (fun hc => ?_) <;> first | (exfalso; omega) | skip) | refine K.c_cond rfl (fun hc => ?_) (fun hc => ?_)))
        refine l_appBV hbv (Fx.und rfl) (Fx.und rfl) rfl rfl (by omega) rfl (fun a11 cap11 => ?_)
        (repeat' (first | (apply K.s_pure; (first | (apply Y.mv; exact X.mv) | (apply Y.sg; exact X.sg) | (apply Y.cv; exact X.cv) | (apply Y.fa; exact X.fa) | (apply Y.ld; exact X.ld) | (apply Y.ia; exact X.ia) | (apply Y.len; exact X.len) | (apply Y.nt; exact X.nt) | (apply Y.badd; exact X.badd) | (apply Y.blss; exact X.blss)); exact rfl) | refine X.l ?_ | refine X.w ?_ | refine X.a ?_ | (refine K.c_condD rfl (fun hc => ?_) (fun hc => ?_) <;> first | (exfalso; omega) | skip) | refine K.c_cond rfl (fun hc => ?_) (fun hc => ?_)))
        refine K.AT.sel [1] rfl ?_
        refine K.a_round hKL (j + 1, a11, cap11, l9 ++ x.data) ⟨by dsimp only; omega, ?_⟩ (by repeat (first | exact K.Sub.nil _ | refine K.Sub.cons rfl ?_)) rfl rfl (by dsimp only; omega)
        dsimp only
        rw [hl9, hl8, hl6, hat, byC, if_pos hu]
        simp only [List.append_assoc]
      | false =>
        (repeat' (first | (apply K.s_pure; (first | (apply Y.mv; exact X.mv) | (apply Y.sg; exact X.sg) | (apply Y.cv; exact X.cv) | (apply Y.fa; exact X.fa) | (apply Y.ld; exact X.ld) | (apply Y.ia; exact X.ia) | (apply Y.len; exact X.len) | (apply Y.nt; exact X.nt) | (apply Y.badd; exact X.badd) | (apply Y.blss; exact X.blss)); exact rfl) | refine X.l ?_ | refine X.w ?_ | refine X.a ?_ | (refine K.c_condD rfl (fun hc => ?_) (fun hc => ?_) <;> first | (exfalso; omega) | skip) | refine K.c_cond rfl (fun hc => ?_) (fun hc => ?_)))
        refine K.AT.sel [1] rfl ?_
        refine K.a_round hKL (j + 1, a8, cap8, l8) ⟨by dsimp only; omega, ?_⟩ (by repeat (first | exact K.Sub.nil _ | refine K.Sub.cons rfl ?_)) rfl rfl (by dsimp only; omega)
        dsimp only
        rw [hl8, hl6, hat, byC, if_neg (by rw [hu]; decide), List.append_nil]
        simp only [List.append_assoc]
    · have hl6b : l6 = bodyB p := by rw [hl6, hbody, show j = p.cells.length by omega, List.take_length]
      clear hl6 hbody hKL hll1
      (repeat' (first | (apply K.s_pure; (first | (apply Y.mv; exact X.mv) | (apply Y.sg; exact X.sg) | (apply Y.cv; exact X.cv) | (apply Y.fa; exact X.fa) | (apply Y.ld; exact X.ld) | (apply Y.ia; exact X.ia) | (apply Y.len; exact X.len) | (apply Y.nt; exact X.nt) | (apply Y.badd; exact X.badd) | (apply Y.blss; exact X.blss)); exact rfl) | refine X.l ?_ | refine X.w ?_ | refine X.a ?_))
      refine K.c_condF (by show some (Value.bool (decide _)) = some (Value.bool false); rw [decide_eq_false (by omega)]) ?_
      (repeat' (first | (apply K.s_pure; (first | (apply Y.mv; exact X.mv) | (apply Y.sg; exact X.sg) | (apply Y.cv; exact X.cv) | (apply Y.fa; exact X.fa) | (apply Y.ld; exact X.ld) | (apply Y.ia; exact X.ia) | (apply Y.len; exact X.len) | (apply Y.nt; exact X.nt) | (apply Y.badd; exact X.badd) | (apply Y.blss; exact X.blss)); exact rfl) | refine X.l ?_ | refine X.w ?_ | refine X.a ?_))
      refine K.c_loop (σ := Nat × Option Nat × Nat) (fun s => [(1, .pointer (some ⟨B1, 0, none⟩)), (3, bufV s.2.1 (l6 ++ List.replicate s.1 0).length s.2.2)]) (fun _ => h) (fun s => bufA 5 1 s.2.1 (l6 ++ List.replicate s.1 0).length s.2.2 ((l6 ++ List.replicate s.1 0).map u8) :: blk B1 26 (cP p (.slice ao p.cells.length ca)) :: F)
        (fun s => s.1 ≤ 508 - l6.length) (fun s => 508 - s.1) (0, a6, c6) (Nat.zero_le _) (by rw [show l6 ++ List.replicate 0 (0 : UInt8) = l6 by simp]; exact (by repeat (first | exact K.Sub.nil _ | refine K.Sub.cons rfl ?_))) rfl (by dsimp only; rw [show l6 ++ List.replicate 0 (0 : UInt8) = l6 by simp]) ?_
      rintro ⟨m, a7, c7⟩ hm7 KM hKM
      dsimp only at hm7 ⊢
      rw [← hl6b] at hbl
      have hln : (l6 ++ List.replicate m (0 : UInt8)).length = l6.length + m := by simp
      by_cases hlt : m < 508 - l6.length
      · have hsucc : l6 ++ List.replicate m (0 : UInt8) ++ [0] = l6 ++ List.replicate (m + 1) 0 := by rw [List.append_assoc, List.replicate_succ']
        obtain ⟨l7, hl7⟩ : ∃ l7, l7 = l6 ++ List.replicate m (0 : UInt8) := ⟨_, rfl⟩
        rw [← hl7] at hln hsucc ⊢
        (repeat' (first | (apply K.s_pure; (first | (apply Y.mv; exact X.mv) | (apply Y.sg; exact X.sg) | (apply Y.cv; exact X.cv) | (apply Y.fa; exact X.fa) | (apply Y.ld; exact X.ld) | (apply Y.ia; exact X.ia) | (apply Y.len; exact X.len) | (apply Y.nt; exact X.nt) | (apply Y.badd; exact X.badd) | (apply Y.blss; exact X.blss)); exact rfl) | refine X.l ?_ | refine X.w ?_ | refine X.a ?_ | (refine K.c_condD rfl (fun hc => ?_) (fun hc => ?_) <;> first | (exfalso; omega) | skip) | refine K.c_cond rfl (fun hc => ?_) (fun hc => ?_)))
        refine X.bs (fun B9 => ?_)
        rw [show [Value.int .u8 0] = ([(0 : UInt8)].map u8) from rfl]
        refine K.WL.bufOf (m := 1) (s := 1) rfl (by unfold maxLen; omega) ?_
        refine l_appBB (l2 := [0]) (Fx.und rfl) (Fx.und rfl) rfl rfl (by rw [List.length_singleton]; omega) rfl (fun a8 cap8 => ?_)
        rw [hsucc]
        (repeat' (first | (apply K.s_pure; (first | (apply Y.mv; exact X.mv) | (apply Y.sg; exact X.sg) | (apply Y.cv; exact X.cv) | (apply Y.fa; exact X.fa) | (apply Y.ld; exact X.ld) | (apply Y.ia; exact X.ia) | (apply Y.len; exact X.len) | (apply Y.nt; exact X.nt) | (apply Y.badd; exact X.badd) | (apply Y.blss; exact X.blss)); exact rfl) | refine X.l ?_ | refine X.w ?_ | refine X.a ?_ | (refine K.c_condD rfl (fun hc => ?_) (fun hc => ?_) <;> first | (exfalso; omega) | skip) | refine K.c_cond rfl (fun hc => ?_) (fun hc => ?_)))
        refine K.a_round hKM (m + 1, a8, cap8) (by dsimp only; omega) (by repeat (first | exact K.Sub.nil _ | refine K.Sub.cons rfl ?_)) rfl rfl (by dsimp only; omega)
      · have hpad : l6 ++ List.replicate m (0 : UInt8) = padB p := by rw [padB, ← hl6b, show m = 508 - l6.length by omega]
        have hpl := padB_len hm
        have hsum := sumQ_lt (s := 0) (by decide) (padB p)
        have henc : encB p = lebs (sumQ 0 (padB p)) 4 ++ padB p := rfl
        rw [hpad]
        generalize padB p = l9 at hpl hsum henc ⊢
        clear hKM hpad
        (repeat' (first | (apply K.s_pure; (first | (apply Y.mv; exact X.mv) | (apply Y.sg; exact X.sg) | (apply Y.cv; exact X.cv) | (apply Y.fa; exact X.fa) | (apply Y.ld; exact X.ld) | (apply Y.ia; exact X.ia) | (apply Y.len; exact X.len) | (apply Y.nt; exact X.nt) | (apply Y.badd; exact X.badd) | (apply Y.blss; exact X.blss)); exact rfl) | refine X.l ?_ | refine X.w ?_ | refine X.a ?_ | (refine K.c_condD rfl (fun hc => ?_) (fun hc => ?_) <;> first | (exfalso; omega) | skip) | refine K.c_cond rfl (fun hc => ?_) (fun hc => ?_)))
        refine K.l_callV (Fx.cal rfl) rfl (K.TrV.borrow (h := h) (A := [bufA 5 1 a7 l9.length c7 (l9.map u8)]) (R := []) fun h' hle hs => RSumOf h' _ l9 (K.says_bv hs) (by omega)) (K.pp [0] rfl) rfl rfl ?_
        simp only [List.set_cons_zero, List.set_cons_succ, List.eraseIdx_cons_zero, List.eraseIdx_cons_succ, List.cons_append, List.nil_append]
        (repeat' (first | (apply K.s_pure; (first | (apply Y.mv; exact X.mv) | (apply Y.sg; exact X.sg) | (apply Y.cv; exact X.cv) | (apply Y.fa; exact X.fa) | (apply Y.ld; exact X.ld) | (apply Y.ia; exact X.ia) | (apply Y.len; exact X.len) | (apply Y.nt; exact X.nt) | (apply Y.badd; exact X.badd) | (apply Y.blss; exact X.blss)); exact rfl) | refine X.l ?_ | refine X.w ?_ | refine X.a ?_ | (refine K.c_condD rfl (fun hc => ?_) (fun hc => ?_) <;> first | (exfalso; omega) | skip) | refine K.c_cond rfl (fun hc => ?_) (fun hc => ?_)))
        refine K.l_call (Fx.cal rfl) rfl (Fixed h (sumQ 0 l9) 4 (by omega) (by omega)) (K.pp [] rfl) rfl ?_
        rintro u h' H' - ⟨rfl, a10, cap10, rfl, rfl⟩
        simp only [List.cons_append, List.nil_append]
        (repeat' (first | (apply K.s_pure; (first | (apply Y.mv; exact X.mv) | (apply Y.sg; exact X.sg) | (apply Y.cv; exact X.cv) | (apply Y.fa; exact X.fa) | (apply Y.ld; exact X.ld) | (apply Y.ia; exact X.ia) | (apply Y.len; exact X.len) | (apply Y.nt; exact X.nt) | (apply Y.badd; exact X.badd) | (apply Y.blss; exact X.blss)); exact rfl) | refine X.l ?_ | refine X.w ?_ | refine X.a ?_ | (refine K.c_condD rfl (fun hc => ?_) (fun hc => ?_) <;> first | (exfalso; omega) | skip) | refine K.c_cond rfl (fun hc => ?_) (fun hc => ?_)))
        refine K.WL.perm (K.pp [1, 0] rfl) ?_
        simp only [List.set_cons_zero, List.set_cons_succ, List.eraseIdx_cons_zero, List.eraseIdx_cons_succ, List.cons_append, List.nil_append]
        refine l_appBB (Fx.und rfl) (Fx.und rfl) rfl rfl (by rw [lebs_length]; omega) rfl (fun a11 cap11 => ?_)
        rw [← henc]
        (repeat' (first | (apply K.s_pure; (first | (apply Y.mv; exact X.mv) | (apply Y.sg; exact X.sg) | (apply Y.cv; exact X.cv) | (apply Y.fa; exact X.fa) | (apply Y.ld; exact X.ld) | (apply Y.ia; exact X.ia) | (apply Y.len; exact X.len) | (apply Y.nt; exact X.nt) | (apply Y.badd; exact X.badd) | (apply Y.blss; exact X.blss)); exact rfl) | refine X.l ?_ | refine X.w ?_ | refine X.a ?_ | (refine K.c_condD rfl (fun hc => ?_) (fun hc => ?_) <;> first | (exfalso; omega) | skip) | refine K.c_cond rfl (fun hc => ?_) (fun hc => ?_)))
        refine K.AT.perm (K.pp [1] rfl) ?_
        simp only [List.set_cons_zero, List.set_cons_succ, List.eraseIdx_cons_zero, List.eraseIdx_cons_succ, List.cons_append, List.nil_append]
        refine K.AT.drop ?_
        refine K.done (by first | exact Or.inl rfl | exact Or.inr rfl) rfl (by first | exact K.Base.le.refl _ | assumption) (H' := [bufA 5 1 a11 (encB p).length cap11 ((encB p).map u8)]) rfl ⟨rfl, a11, cap11, rfl, rfl⟩
end Go.Proofs.Ytjgfgpdkcojnmaa.Pg
