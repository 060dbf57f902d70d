/-
  A page's memory is written over. Conditions: each theorem's own.
-/
import Derived.Test.YtjgfgpdkcojnmaaFq

namespace Go.Proofs.Ytjgfgpdkcojnmaa.Pg
open Go Go.K Go.Proofs Go.Proofs.Ytjgfgpdkcojnmaa
set_option linter.unusedVariables false
set_option linter.unusedSimpArgs false
set_option maxRecDepth 10000

section
variable {P : Program} {n : Nat} {Q : Exit → Act → World → Prop} {E : Env} {h : Base} {A Hs F : List Asrt} {ops : Array Oper}
theorem WL.dropsA {L : List Oper} (hx : WL P n ops Q L E h F) : WL P n ops Q L E h (A ++ F) := ⟨fun a w fa ok => hx.run a w fa ok.drops⟩
theorem Ok.allGet {X : Asrt} {i : Nat} {w : World} (hi : Hs[i]? = some X) (ok : Ok h (all Hs :: F) w) : Ok h (X :: all (Hs.eraseIdx i) :: F) w := by
  have ok1 := K.Ok.all_iff.1 ok
  have ok2 : Ok h (Hs.eraseIdx i ++ (X :: F)) w := ok1.perm (((K.at_perm hi).append_right F).trans List.perm_middle.symm)
  exact (K.Ok.all_iff.2 ok2).perm (List.Perm.swap _ _ _)
theorem Ok.allRet {X : Asrt} {i : Nat} {w : World} (hi : i < Hs.length) (ok : Ok h (X :: all (Hs.eraseIdx i) :: F) w) : Ok h (all (Hs.set i X) :: F) w := by
  have ok1 := K.Ok.allCons ok
  have hp := K.at_perm (l := Hs.set i X) (i := i) (A := X) (by rw [List.getElem?_set_self hi])
  rw [List.eraseIdx_set_eq] at hp
  exact K.Ok.allPerm hp.symm ok1
theorem WC.allGet {c : Code} {X : Asrt} {i : Nat} (hi : Hs[i]? = some X) (hx : WC P n c Q E h (X :: all (Hs.eraseIdx i) :: F)) : WC P n c Q E h (all Hs :: F) := ⟨fun a w fa ok => hx.run a w fa (Ok.allGet hi ok)⟩
theorem WL.allRet {L : List Oper} {X : Asrt} {i : Nat} (hi : i < Hs.length) (hx : WL P n ops Q L E h (all (Hs.set i X) :: F)) : WL P n ops Q L E h (X :: all (Hs.eraseIdx i) :: F) := ⟨fun a w fa ok => hx.run a w fa (Ok.allRet hi ok)⟩
theorem WC.allRet {c : Code} {X : Asrt} {i : Nat} (hi : i < Hs.length) (hx : WC P n c Q E h (all (Hs.set i X) :: F)) : WC P n c Q E h (X :: all (Hs.eraseIdx i) :: F) := ⟨fun a w fa ok => hx.run a w fa (Ok.allRet hi ok)⟩
theorem AT.allRet {q : Exit} {X : Asrt} {i : Nat} (hi : i < Hs.length) (hx : AT P n Q q E h (all (Hs.set i X) :: F)) : AT P n Q q E h (X :: all (Hs.eraseIdx i) :: F) := ⟨fun a w fa ok => hx.run a w fa (Ok.allRet hi ok)⟩
end
set_option maxHeartbeats 8000000 in
theorem Spoil (h : Base) (b : Option Nat) (cap : Nat) (l : List OC) (p : Pag) (hl : l.length ≤ 1000) (hd : ∀ c ∈ l, c.data.length ≤ 9223372036854775806) :
    Tr Try.prog 29 [.agg (cP p (bufV b l.length cap)).toArray] h (pgA b cap l) (fun v h' H' => h' = h) := by
  refine K.enter Try.func29 rfl (Nat.le_of_ble_eq_true rfl) (fun F => ?_)
  simp only [pgA, List.cons_append, List.nil_append]
  refine K.oc_buf (fun e h0 _ _ => ?_) ?_
  · subst e
    obtain rfl : l = [] := List.eq_nil_of_length_eq_zero h0
    (repeat' (first | (apply K.s_pure; (first | (apply Y.mv; exact X.mv) | (apply Y.sg; exact X.sg) | (apply Y.fa; exact X.fa) | (apply Y.ld; exact X.ld) | (apply Y.ia; exact X.ia) | (apply Y.len; exact X.len) | (apply Y.nt; exact X.nt) | (apply Y.badd; exact X.badd) | (apply Y.blss; exact X.blss)); exact rfl) | refine X.l ?_ | refine X.w ?_ | refine X.a ?_ | (refine K.c_condD rfl (fun hc => ?_) (fun hc => ?_) <;> first | (exfalso; omega) | skip) | refine K.c_cond rfl (fun hc => ?_) (fun hc => ?_)))
    refine K.l_box rfl rfl rfl (fun B1 => ?_)
    (repeat' (first | (apply K.s_pure; (first | (apply Y.mv; exact X.mv) | (apply Y.sg; exact X.sg) | (apply Y.fa; exact X.fa) | (apply Y.ld; exact X.ld) | (apply Y.ia; exact X.ia) | (apply Y.len; exact X.len) | (apply Y.nt; exact X.nt) | (apply Y.badd; exact X.badd) | (apply Y.blss; exact X.blss)); exact rfl) | refine X.l ?_ | refine X.w ?_ | refine X.a ?_ | (refine K.c_condD rfl (fun hc => ?_) (fun hc => ?_) <;> first | (exfalso; omega) | skip) | refine K.c_cond rfl (fun hc => ?_) (fun hc => ?_)))
    refine K.c_loop (σ := Nat) (fun n => [(1, .pointer (some ⟨B1, 0, none⟩)), (2, .int .i64 0)]) (fun _ => h) (fun n => blk B1 26 (cP p (bufV none 0 cap)) :: all [] :: F) (fun n => True) (fun n => 0) 0 trivial (by repeat (first | exact K.Sub.nil _ | refine K.Sub.cons rfl ?_)) rfl rfl ?_
    rintro n _ KL hKL
    (repeat' (first | (apply K.s_pure; (first | (apply Y.mv; exact X.mv) | (apply Y.sg; exact X.sg) | (apply Y.fa; exact X.fa) | (apply Y.ld; exact X.ld) | (apply Y.ia; exact X.ia) | (apply Y.len; exact X.len) | (apply Y.nt; exact X.nt) | (apply Y.badd; exact X.badd) | (apply Y.blss; exact X.blss)); exact rfl) | refine X.l ?_ | refine X.w ?_ | refine X.a ?_ | (refine K.c_condD rfl (fun hc => ?_) (fun hc => ?_) <;> first | (exfalso; omega) | skip) | refine K.c_cond rfl (fun hc => ?_) (fun hc => ?_)))
    refine K.done (by first | exact Or.inl rfl | exact Or.inr rfl) rfl (by first | exact K.Base.le.refl _ | assumption) (H' := [_, _]) rfl rfl
  · rintro bb sp fz rfl g2 g3 g4 g5 g6
    (repeat' (first | (apply K.s_pure; (first | (apply Y.mv; exact X.mv) | (apply Y.sg; exact X.sg) | (apply Y.fa; exact X.fa) | (apply Y.ld; exact X.ld) | (apply Y.ia; exact X.ia) | (apply Y.len; exact X.len) | (apply Y.nt; exact X.nt) | (apply Y.badd; exact X.badd) | (apply Y.blss; exact X.blss)); exact rfl) | refine X.l ?_ | refine X.w ?_ | refine X.a ?_ | (refine K.c_condD rfl (fun hc => ?_) (fun hc => ?_) <;> first | (exfalso; omega) | skip) | refine K.c_cond rfl (fun hc => ?_) (fun hc => ?_)))
    refine K.l_box rfl rfl rfl (fun B1 => ?_)
    (repeat' (first | (apply K.s_pure; (first | (apply Y.mv; exact X.mv) | (apply Y.sg; exact X.sg) | (apply Y.fa; exact X.fa) | (apply Y.ld; exact X.ld) | (apply Y.ia; exact X.ia) | (apply Y.len; exact X.len) | (apply Y.nt; exact X.nt) | (apply Y.badd; exact X.badd) | (apply Y.blss; exact X.blss)); exact rfl) | refine X.l ?_ | refine X.w ?_ | refine X.a ?_ | (refine K.c_condD rfl (fun hc => ?_) (fun hc => ?_) <;> first | (exfalso; omega) | skip) | refine K.c_cond rfl (fun hc => ?_) (fun hc => ?_)))
    refine K.WC.perm (K.pp [1, 1] rfl) ?_
    simp only [List.set_cons_zero, List.set_cons_succ, List.eraseIdx_cons_zero, List.eraseIdx_cons_succ, List.cons_append, List.nil_append]
    have hle3 : l.length * 3 ≤ cap * 3 := Nat.mul_le_mul_right _ g4
    refine K.c_loop (σ := Nat × List OC) (fun q => [(1, .pointer (some ⟨B1, 0, none⟩)), (2, .int .i64 q.1)]) (fun _ => h)
      (fun q => blkF bb 47 ((q.2.map rowO).flatten ++ sp) fz :: all (q.2.map datA) :: blk B1 26 (cP p (bufV (some bb) l.length cap)) :: F)
      (fun q => q.1 ≤ l.length ∧ q.2.length = l.length ∧ ∀ c ∈ q.2, c.data.length ≤ 9223372036854775806) (fun q => l.length - q.1) (0, l) ⟨Nat.zero_le _, rfl, hd⟩ (by repeat (first | exact K.Sub.nil _ | refine K.Sub.cons rfl ?_)) rfl rfl ?_
    rintro ⟨i, m⟩ ⟨hi, hml, hmd⟩ KL hKL
    dsimp only at hi hml hmd ⊢
    by_cases hil : i < l.length
    · have hc : m[i]? = some (m[i]'(by omega)) := List.getElem?_eq_getElem (by omega)
      generalize m[i]'(by omega) = c at hc
      have hz3 := rowO_len m
      have hr1 : (m.map rowO)[i]? = some (rowO c) := by rw [List.getElem?_map, hc]; rfl
      have hcd := hmd c (List.mem_of_getElem? hc)
      have hmm : (m.map rowO).length = l.length := by rw [List.length_map, hml]
      (repeat' (first | (apply K.s_pure; (first | (apply Y.mv; exact X.mv) | (apply Y.sg; exact X.sg) | (apply Y.fa; exact X.fa) | (apply Y.ld; exact X.ld) | (apply Y.ia; exact X.ia) | (apply Y.len; exact X.len) | (apply Y.nt; exact X.nt) | (apply Y.badd; exact X.badd) | (apply Y.blss; exact X.blss)); exact rfl) | refine X.l ?_ | refine X.w ?_ | refine X.a ?_))
      refine K.c_condT (by show some (Value.bool (decide _)) = some (Value.bool true); rw [decide_eq_true (by omega)]) ?_
      (repeat' (first | (apply K.s_pure; (first | (apply Y.mv; exact X.mv) | (apply Y.sg; exact X.sg) | (apply Y.fa; exact X.fa) | (apply Y.ld; exact X.ld) | (apply Y.ia; exact X.ia) | (apply Y.len; exact X.len) | (apply Y.nt; exact X.nt) | (apply Y.badd; exact X.badd) | (apply Y.blss; exact X.blss)); exact rfl) | refine X.l ?_ | refine X.w ?_ | refine X.a ?_))
      refine K.WC.perm (K.pp [1] rfl) ?_
      simp only [List.set_cons_zero, List.set_cons_succ, List.eraseIdx_cons_zero, List.eraseIdx_cons_succ, List.cons_append, List.nil_append]
      refine WC.allGet (X := datA c) (i := i) (by rw [List.getElem?_map, hc]; rfl) ?_
      refine K.c_loop (σ := Nat × List UInt8) (fun q => [(1, .pointer (some ⟨B1, 0, none⟩)), (2, .int .i64 i), (3, .int .i64 q.1)]) (fun _ => h)
        (fun q => bufA 5 1 c.a c.data.length c.cap (q.2.map u8) :: all ((m.map datA).eraseIdx i) :: blkF bb 47 ((m.map rowO).flatten ++ sp) fz :: blk B1 26 (cP p (bufV (some bb) l.length cap)) :: F)
        (fun q => q.1 ≤ c.data.length ∧ q.2.length = c.data.length) (fun q => c.data.length - q.1) (0, c.data) ⟨Nat.zero_le _, rfl⟩ (by repeat (first | exact K.Sub.nil _ | refine K.Sub.cons rfl ?_)) rfl rfl ?_
      rintro ⟨k, bs⟩ ⟨hk, hbs⟩ KM hKM
      dsimp only at hk hbs ⊢
      by_cases hkl : k < c.data.length
      · refine K.oc_buf (fun _ e _ _ => by omega) ?_
        rintro b2 sp2 fz2 hca q2 q3 q4 q5 q6
        have hbj : bs[k]? = some (bs[k]'(by omega)) := List.getElem?_eq_getElem (by omega)
        generalize bs[k]'(by omega) = x at hbj
        have hrow : (rowO c)[2]? = some (.slice (some ⟨b2, 0, none⟩) c.data.length c.cap) := by
          show some (bufV c.a c.data.length c.cap) = _
          rw [hca]; rfl
        (repeat' (first | (apply K.s_pure; (first | (apply Y.mv; exact X.mv) | (apply Y.sg; exact X.sg) | (apply Y.fa; exact X.fa) | (apply Y.ld; exact X.ld) | (apply Y.ia; exact X.ia) | (apply Y.len; exact X.len) | (apply Y.nt; exact X.nt) | (apply Y.badd; exact X.badd) | (apply Y.blss; exact X.blss)); exact rfl) | refine X.l ?_ | refine X.w ?_ | refine X.a ?_ | (refine K.c_condD rfl (fun hc => ?_) (fun hc => ?_) <;> first | (exfalso; omega) | skip) | refine K.c_cond rfl (fun hc => ?_) (fun hc => ?_)))
        refine K.s_pure (K.p_load (Fx.agg rfl) rfl (K.cel_row (s := 3) (i := i) (j := 2) (u := .slice (some ⟨b2, 0, none⟩) c.data.length c.cap) 2 rfl hz3 hr1 hrow (by omega))) rfl ?_
        (repeat' (first | (apply K.s_pure; (first | (apply Y.mv; exact X.mv) | (apply Y.sg; exact X.sg) | (apply Y.fa; exact X.fa) | (apply Y.ld; exact X.ld) | (apply Y.ia; exact X.ia) | (apply Y.len; exact X.len) | (apply Y.nt; exact X.nt) | (apply Y.badd; exact X.badd) | (apply Y.blss; exact X.blss)); exact rfl) | refine X.l ?_ | refine X.w ?_ | refine X.a ?_ | (refine K.c_condD rfl (fun hc => ?_) (fun hc => ?_) <;> first | (exfalso; omega) | skip) | refine K.c_cond rfl (fun hc => ?_) (fun hc => ?_)))
        refine X.draw ([blkF b2 5 (bs.map u8 ++ sp2) fz2, blkF bb 47 ((m.map rowO).flatten ++ sp) fz, blk B1 26 (cP p (bufV (some bb) l.length cap))]) [18] (.pu 0 (.pu 2 (.pu 6 (.pu 7 (.pu 9 (.pu 13 (.st 1 (.pu 3 (.pu 4 (.st 5 (.st 8 (.pu 10 (.pu 11 (.st 12 (.pu 14 (.st 15 (.pu 16 (.pu 17 (.cl 18 .nil))))))))))))))))))) ?_
        refine K.d_pu rfl (fun _ _ => X.fa) rfl ?_
        refine K.d_pu rfl (fun _ _ => X.mv) rfl ?_
        refine K.d_pu rfl (fun _ _ => X.mv) rfl ?_
        refine K.d_pu rfl (fun _ _ => X.fa) rfl ?_
        refine K.d_pu rfl (fun _ _ => X.mv) rfl ?_
        refine K.d_pu rfl (fun _ _ => X.mv) rfl ?_
        refine K.d_st rfl X.ld rfl ?_
        refine K.d_pu rfl (fun _ _ => X.ia) rfl ?_
        refine K.d_pu rfl (fun _ _ => X.fa) rfl ?_
        refine K.d_st rfl (K.p_load (Fx.agg rfl) rfl (K.cel_row (s := 3) (i := i) (j := 2) (u := .slice (some ⟨b2, 0, none⟩) c.data.length c.cap) 1 rfl hz3 hr1 hrow (by omega))) rfl ?_
        refine K.d_st rfl X.ld rfl ?_
        refine K.d_pu rfl (fun _ _ => X.ia) rfl ?_
        refine K.d_pu rfl (fun _ _ => X.fa) rfl ?_
        refine K.d_st rfl (K.p_load (Fx.agg rfl) rfl (K.cel_row (s := 3) (i := i) (j := 2) (u := .slice (some ⟨b2, 0, none⟩) c.data.length c.cap) 1 rfl hz3 hr1 hrow (by omega))) rfl ?_
        refine K.d_pu rfl (fun _ _ => X.ia) rfl ?_
        refine K.d_st rfl (K.p_load (Fx.agg rfl) rfl (K.cel_own (v := u8 x) 0 rfl (by rw [List.getElem?_append_left (by simpa using (by omega : k < bs.length)), List.getElem?_map, hbj]; rfl))) rfl ?_
        simp only [u8]
        refine K.d_pu rfl (fun _ _ => X.badd) rfl ?_
        rw [inc8]
        refine K.d_pu rfl (fun _ _ => X.ia) rfl ?_
        refine K.d_cl rfl (fun KK hKK => ?_)
        refine K.l_storeB (c := x + 1) (Fx.sz rfl) rfl rfl rfl (by omega) (fun o ho => q6 o (by omega)) ?_
        refine K.l_nil ?_
        refine K.d_clE hKK ?_
        refine K.d_nil ?_
        (repeat' (first | (apply K.s_pure; (first | (apply Y.mv; exact X.mv) | (apply Y.sg; exact X.sg) | (apply Y.fa; exact X.fa) | (apply Y.ld; exact X.ld) | (apply Y.ia; exact X.ia) | (apply Y.len; exact X.len) | (apply Y.nt; exact X.nt) | (apply Y.badd; exact X.badd) | (apply Y.blss; exact X.blss)); exact rfl) | refine X.l ?_ | refine X.w ?_ | refine X.a ?_ | (refine K.c_condD rfl (fun hc => ?_) (fun hc => ?_) <;> first | (exfalso; omega) | skip) | refine K.c_cond rfl (fun hc => ?_) (fun hc => ?_)))
        refine K.AT.shut (s := 1) (m := c.data.length) (cap := c.cap) (by simp [hbs]) (by simpa using q3) q4 q5 q6 ?_
        rw [← hca]
        refine K.a_round hKM (k + 1, bs.set k (x + 1)) ⟨by dsimp only; omega, by simp [hbs]⟩ (by repeat (first | exact K.Sub.nil _ | refine K.Sub.cons rfl ?_)) rfl rfl (by dsimp only; omega)
      · obtain ⟨v3, hv3⟩ : ∃ v3, (rowO c)[2]? = some (.slice v3 c.data.length c.cap) := ⟨c.a.map fun b => ⟨b, 0, none⟩, rfl⟩
        (repeat' (first | (apply K.s_pure; (first | (apply Y.mv; exact X.mv) | (apply Y.sg; exact X.sg) | (apply Y.fa; exact X.fa) | (apply Y.ld; exact X.ld) | (apply Y.ia; exact X.ia) | (apply Y.len; exact X.len) | (apply Y.nt; exact X.nt) | (apply Y.badd; exact X.badd) | (apply Y.blss; exact X.blss)); exact rfl) | refine X.l ?_ | refine X.w ?_ | refine X.a ?_ | (refine K.c_condD rfl (fun hc => ?_) (fun hc => ?_) <;> first | (exfalso; omega) | skip) | refine K.c_cond rfl (fun hc => ?_) (fun hc => ?_)))
        refine K.s_pure (K.p_load (Fx.agg rfl) rfl (K.cel_row (s := 3) (i := i) (j := 2) (u := .slice v3 c.data.length c.cap) 2 rfl hz3 hr1 hv3 (by omega))) rfl ?_
        (repeat' (first | (apply K.s_pure; (first | (apply Y.mv; exact X.mv) | (apply Y.sg; exact X.sg) | (apply Y.fa; exact X.fa) | (apply Y.ld; exact X.ld) | (apply Y.ia; exact X.ia) | (apply Y.len; exact X.len) | (apply Y.nt; exact X.nt) | (apply Y.badd; exact X.badd) | (apply Y.blss; exact X.blss)); exact rfl) | refine X.l ?_ | refine X.w ?_ | refine X.a ?_ | (refine K.c_condD rfl (fun hc => ?_) (fun hc => ?_) <;> first | (exfalso; omega) | skip) | refine K.c_cond rfl (fun hc => ?_) (fun hc => ?_)))
        refine K.WL.perm (K.pp [2] rfl) ?_
        simp only [List.set_cons_zero, List.set_cons_succ, List.eraseIdx_cons_zero, List.eraseIdx_cons_succ, List.cons_append, List.nil_append]
        refine K.l_storeFld (s := 3) (i := i) (j := 1) (u := .int .u32 99) (Fx.sz rfl) rfl rfl rfl hz3 hr1 (by omega) (by rw [Nat.zero_add]; rfl) (fun o ho => g6 o (by omega)) ?_
        obtain ⟨c1, hc1⟩ : ∃ c1 : OC, c1 = ⟨c.used, 99, c.a, c.cap, c.data⟩ := ⟨_, rfl⟩
        rw [show (m.map rowO).set i ((rowO c).set 1 (.int .u32 99)) = (m.set i c1).map rowO by rw [List.map_set, hc1]; rfl]
        have hz4 := rowO_len (m.set i c1)
        have hr4 : ((m.set i c1).map rowO)[i]? = some (rowO c1) := by rw [List.getElem?_map, List.getElem?_set_self (by omega)]; rfl
        have hu4 : (rowO c1)[0]? = some (.bool c.used) := by rw [hc1]; rfl
        have hm4 : ((m.set i c1).map rowO).length = l.length := by rw [List.length_map, List.length_set, hml]
        (repeat' (first | (apply K.s_pure; (first | (apply Y.mv; exact X.mv) | (apply Y.sg; exact X.sg) | (apply Y.fa; exact X.fa) | (apply Y.ld; exact X.ld) | (apply Y.ia; exact X.ia) | (apply Y.len; exact X.len) | (apply Y.nt; exact X.nt) | (apply Y.badd; exact X.badd) | (apply Y.blss; exact X.blss)); exact rfl) | refine X.l ?_ | refine X.w ?_ | refine X.a ?_ | (refine K.c_condD rfl (fun hc => ?_) (fun hc => ?_) <;> first | (exfalso; omega) | skip) | refine K.c_cond rfl (fun hc => ?_) (fun hc => ?_)))
        refine X.draw ([blkF bb 47 (((m.set i c1).map rowO).flatten ++ sp) fz, blk B1 26 (cP p (bufV (some bb) l.length cap))]) [12] (.pu 0 (.pu 2 (.pu 3 (.pu 5 (.st 1 (.st 4 (.pu 6 (.pu 7 (.st 8 (.pu 9 (.pu 10 (.pu 11 (.cl 12 .nil))))))))))))) ?_
        refine K.d_pu rfl (fun _ _ => X.fa) rfl ?_
        refine K.d_pu rfl (fun _ _ => X.mv) rfl ?_
        refine K.d_pu rfl (fun _ _ => X.fa) rfl ?_
        refine K.d_pu rfl (fun _ _ => X.mv) rfl ?_
        refine K.d_st rfl X.ld rfl ?_
        refine K.d_st rfl X.ld rfl ?_
        refine K.d_pu rfl (fun _ _ => X.ia) rfl ?_
        refine K.d_pu rfl (fun _ _ => X.fa) rfl ?_
        refine K.d_st rfl (K.p_load (Fx.agg rfl) rfl (K.cel_row (s := 3) (i := i) (j := 0) (u := .bool c.used) 0 rfl hz4 hr4 hu4 (by omega))) rfl ?_
        refine K.d_pu rfl (fun _ _ => X.nt) rfl ?_
        refine K.d_pu rfl (fun _ _ => X.ia) rfl ?_
        refine K.d_pu rfl (fun _ _ => X.fa) rfl ?_
        refine K.d_cl rfl (fun KK hKK => ?_)
        refine K.l_storeFld (s := 3) (i := i) (j := 0) (u := .bool (!c.used)) (Fx.sz rfl) rfl rfl rfl hz4 hr4 (by omega) (by rw [Int.toNat_natCast]; rfl) (fun o ho => g6 o (by omega)) ?_
        refine K.l_nil ?_
        refine K.d_clE hKK ?_
        refine K.d_nil ?_
        obtain ⟨c2, hc2⟩ : ∃ c2 : OC, c2 = ⟨!c.used, 99, c.a, c.cap, bs⟩ := ⟨_, rfl⟩
        rw [show ((m.set i c1).map rowO).set i ((rowO c1).set 0 (.bool (!c.used))) = (m.set i c2).map rowO by
          rw [List.map_set, List.set_set, List.map_set, hc1, hc2]
          simp only [rowO]
          rw [hbs]; rfl]
        (repeat' (first | (apply K.s_pure; (first | (apply Y.mv; exact X.mv) | (apply Y.sg; exact X.sg) | (apply Y.fa; exact X.fa) | (apply Y.ld; exact X.ld) | (apply Y.ia; exact X.ia) | (apply Y.len; exact X.len) | (apply Y.nt; exact X.nt) | (apply Y.badd; exact X.badd) | (apply Y.blss; exact X.blss)); exact rfl) | refine X.l ?_ | refine X.w ?_ | refine X.a ?_ | (refine K.c_condD rfl (fun hc => ?_) (fun hc => ?_) <;> first | (exfalso; omega) | skip) | refine K.c_cond rfl (fun hc => ?_) (fun hc => ?_)))
        refine K.AT.perm (K.pp [1, 1] rfl) ?_
        simp only [List.set_cons_zero, List.set_cons_succ, List.eraseIdx_cons_zero, List.eraseIdx_cons_succ, List.cons_append, List.nil_append]
        rw [show bufA 5 1 c.a c.data.length c.cap (bs.map u8) = datA c2 by rw [hc2, datA]; simp only [hbs]]
        refine AT.allRet (by rw [List.length_map]; omega) ?_
        rw [← List.map_set]
        refine K.AT.perm (K.pp [1] rfl) ?_
        simp only [List.set_cons_zero, List.set_cons_succ, List.eraseIdx_cons_zero, List.eraseIdx_cons_succ, List.cons_append, List.nil_append]
        refine K.a_round hKL (i + 1, m.set i c2) ⟨by dsimp only; omega, by dsimp only; rw [List.length_set, hml], fun y hy => ?_⟩ (by repeat (first | exact K.Sub.nil _ | refine K.Sub.cons rfl ?_)) rfl rfl (by dsimp only; omega)
        rcases List.mem_or_eq_of_mem_set hy with hy | hy
        · exact hmd y hy
        · rw [hy, hc2]; show bs.length ≤ _; rw [hbs]; exact hcd
    · (repeat' (first | (apply K.s_pure; (first | (apply Y.mv; exact X.mv) | (apply Y.sg; exact X.sg) | (apply Y.fa; exact X.fa) | (apply Y.ld; exact X.ld) | (apply Y.ia; exact X.ia) | (apply Y.len; exact X.len) | (apply Y.nt; exact X.nt) | (apply Y.badd; exact X.badd) | (apply Y.blss; exact X.blss)); exact rfl) | refine X.l ?_ | refine X.w ?_ | refine X.a ?_ | (refine K.c_condD rfl (fun hc => ?_) (fun hc => ?_) <;> first | (exfalso; omega) | skip) | refine K.c_cond rfl (fun hc => ?_) (fun hc => ?_)))
      refine K.done (by first | exact Or.inl rfl | exact Or.inr rfl) rfl (by first | exact K.Base.le.refl _ | assumption) (H' := [_, _, _]) rfl rfl
end Go.Proofs.Ytjgfgpdkcojnmaa.Pg
