/-
  Records in the law: a record's memory is written over. Conditions: each theorem's own.
-/
import Derived.Test.YtihambjhlhgaeaaIb

namespace Go.Proofs.Ytihambjhlhgaeaa.Rc
open Go Go.K Go.Proofs Go.Proofs.Ytihambjhlhgaeaa Go.Proofs.Ytihambjhlhgaeaa.Pg Go.Proofs.Ytihambjhlhgaeaa.Cc Go.Proofs.Ytihambjhlhgaeaa.Rb
set_option linter.unusedVariables false
set_option linter.unusedSimpArgs false
set_option maxRecDepth 10000

section
variable {h h' : Base} {L : List Nat}
theorem row_lt {j n sz i : Nat} (hj : j < n) (hi : i < sz) : j * sz + i < n * sz := by
  have : (j + 1) * sz ≤ n * sz := Nat.mul_le_mul_right _ hj
  rw [Nat.add_mul, Nat.one_mul] at this
  omega
theorem spR {sz n c : Nat} {ao : Option Addr} {es : List (List Value)} (hw : ∃ w, Sat h' [] w) (hL : ∀ b arr T fz, h.mem b = none → h'.mem b = some (.cells arr T fz) → b ∈ L) (hv : SL h' sz (.slice ao n c) es) (hf : Fsh h h' sz (.slice ao n c)) {j : Nat} {e : List Value} (hj : es[j]? = some e) (hjn : j < n) :
    ∃ b arr T fz, ao = some ⟨b, 0, none⟩ ∧ b ∈ L ∧ h'.mem b = some (.cells arr T fz) ∧ (∀ i, i < sz → (decide (fz.1 ≤ j * sz + i) && decide (j * sz + i < fz.2)) = false) ∧ ∀ g, Cmp h' L g → ∀ (i : Nat) u, e[i]? = some u → ∃ u', (g b)[j * sz + i]? = some u' ∧ cmp1 u u' := by
  obtain ⟨b, arr, T, fz, e1, e2, e3, e4⟩ := hf _ _ _ rfl (by omega)
  refine ⟨b, arr, T, fz, e1, hL b arr T fz e2 e3, e3, fun i hi => e4 _ (row_lt hjn hi), fun g hg i u hu => ?_⟩
  rcases hv with ⟨_, _, _, rfl⟩ | ⟨b', o, c', hve, _, hall⟩
  · simp at hj
  · injection hve with e5 _ _
    rw [e1] at e5
    injection e5 with e5
    injection e5 with e6 e7 _
    subst e6 e7
    obtain ⟨hlt, rfl⟩ := List.getElem?_eq_some_iff.1 hj
    have hc := (hall j hlt).2.get i u hu
    have ha := cel_arr hw e3 hc
    rw [show 0 + j * sz + i = j * sz + i by omega] at ha
    exact (hg b (hL b arr T fz e2 e3) arr T fz e3).2 _ _ ha
theorem spB {n c : Nat} {ao : Option Addr} {l : List UInt8} (hw : ∃ w, Sat h' [] w) (hL : ∀ b arr T fz, h.mem b = none → h'.mem b = some (.cells arr T fz) → b ∈ L) (hv : BV h' (.slice ao n c) l) (hf : Fsh h h' 1 (.slice ao n c)) (hn : l.length = n) {j : Nat} (hjn : j < n) :
    ∃ b arr T fz, ao = some ⟨b, 0, none⟩ ∧ b ∈ L ∧ h'.mem b = some (.cells arr T fz) ∧ (decide (fz.1 ≤ j) && decide (j < fz.2)) = false ∧ ∀ g, Cmp h' L g → ∃ a, (g b)[j]? = some (.int .u8 a) := by
  obtain ⟨b, arr, T, fz, e1, e2, e3, e4⟩ := hf _ _ _ rfl (by omega)
  refine ⟨b, arr, T, fz, e1, hL b arr T fz e2 e3, e3, e4 _ (by omega), fun g hg => ?_⟩
  rcases hv with ⟨_, _, _, rfl⟩ | ⟨b', o, c', hve, _, hall⟩
  · simp at hn; omega
  · injection hve with e5 _ _
    rw [e1] at e5
    injection e5 with e5
    injection e5 with e6 e7 _
    subst e6 e7
    have hc := hall.get j (u8 (l[j]'(by omega))) (by rw [List.getElem?_map, List.getElem?_eq_getElem (by omega)]; rfl)
    have ha := cel_arr hw e3 hc
    rw [Nat.zero_add] at ha
    obtain ⟨u', h1, h2⟩ := (hg b (hL b arr T fz e2 e3) arr T fz e3).2 _ _ ha
    rcases h2 with rfl | ⟨k, a, c, e8, rfl⟩
    · exact ⟨_, h1⟩
    · injection e8 with e8 _
      subst e8
      exact ⟨_, h1⟩
theorem cmp_slice {ao : Option Addr} {n c : Nat} {u : Value} (hc : cmp1 (.slice ao n c) u) : u = .slice ao n c := by
  rcases hc with rfl | ⟨_, _, _, e, _⟩
  · rfl
  · cases e
theorem cmp_int {k : IntKind} {a : Int} {u : Value} (hc : cmp1 (.int k a) u) : ∃ c, u = .int k c := by
  rcases hc with rfl | ⟨k2, a2, c2, e, rfl⟩
  · exact ⟨a, rfl⟩
  · cases e
    exact ⟨c2, rfl⟩
end
set_option maxHeartbeats 8000000 in
theorem Spoil (h h' : Base) (L : List Nat) (g : Nat → List Value) (hw : ∃ w, Sat h' [] w) (hg : Cmp h' L g) (hL : ∀ b arr T fz, h.mem b = none → h'.mem b = some (.cells arr T fz) → b ∈ L) (cs : List Value) (r : Recd) (hx : RecF h h' cs r) :
    Tr Try.prog 20 [.agg cs.toArray] h [spA h' L g] (fun u h1 H1 => h1 = h ∧ H1 = []) := by
  obtain ⟨hwf, ad, cd, iv, lv, yv, rfl, ⟨hb, hbf⟩, ⟨es, hi1, hi2, hif, hi4⟩, ⟨hl1, hlf⟩, ⟨hd1, hdf⟩⟩ := hx
  obtain ⟨ai, ci, rfl⟩ := hi1.len
  obtain ⟨al, cl, rfl⟩ := hl1.len
  obtain ⟨ay, cy, rfl⟩ := hd1.len
  rw [hi2] at hi1 hif ⊢
  rw [List.length_map] at hl1 hlf ⊢
  rw [List.length_map] at hd1 hdf ⊢
  have w1 := hwf.images
  have w2 := hwf.lives
  have w3 := hwf.dirty
  have w4 := hwf.op.len
  clear hwf
  refine K.enter Try.func20 rfl (Nat.le_of_ble_eq_true rfl) (fun F => ?_)
  simp only [List.cons_append, List.nil_append]
  (repeat' (first | refine X.rq ?_ | (refine X.rc ?_ ?_ <;> intro hc <;> first | (exfalso; omega) | skip)))
  refine K.l_box rfl rfl rfl (fun B1 => ?_)
  (repeat' (first | refine X.rq ?_ | (refine X.rc ?_ ?_ <;> intro hc <;> first | (exfalso; omega) | skip)))
  refine K.c_loop (σ := Nat × (Nat → List Value)) (fun q => [(1, .pointer (some ⟨B1, 0, none⟩)), (2, .int .i64 q.1)]) (fun _ => h) (fun q => blk B1 31 (cR r (.slice ad r.op.data.length cd) (.slice ai r.images.length ci) (.slice al r.lives.length cl) (.slice ay r.dirty.length cy)) :: spA h' L q.2 :: F)
    (fun q => q.1 ≤ r.op.data.length ∧ Cmp h' L q.2) (fun q => r.op.data.length - q.1) (0, g) ⟨Nat.zero_le _, hg⟩ (by repeat (first | exact K.Sub.nil _ | refine K.Sub.cons rfl ?_)) rfl rfl ?_
  rintro ⟨j, g1⟩ ⟨hj, hg1⟩ KL hKL
  dsimp only at hj hg1 ⊢
  by_cases hjl : j < r.op.data.length
  · obtain ⟨bd, arr, T, fz, rfl, hbL, hm, hfz, hgj⟩ := spB hw hL hb hbf rfl hjl
    obtain ⟨a, ha⟩ := hgj g1 hg1
    (repeat' (first | refine X.rq ?_ | (refine X.rc ?_ ?_ <;> intro hc <;> first | (exfalso; omega) | skip)))
    refine X.draw ([blk B1 31 (cR r (.slice (some ⟨bd, 0, none⟩) r.op.data.length cd) (.slice ai r.images.length ci) (.slice al r.lives.length cl) (.slice ay r.dirty.length cy)), spA h' L g1]) [12] (.pu 0 (.pu 1 (.pu 3 (.pu 4 (.pu 5 (.pu 7 (.st 2 (.st 6 (.pu 8 (.st 9 (.pu 10 (.pu 11 (.cl 12 .nil))))))))))))) ?_
    refine K.d_pu rfl (fun _ _ => X.fa) rfl ?_
    refine K.d_pu rfl (fun _ _ => X.fa) rfl ?_
    refine K.d_pu rfl (fun _ _ => X.mv) rfl ?_
    refine K.d_pu rfl (fun _ _ => X.fa) rfl ?_
    refine K.d_pu rfl (fun _ _ => X.fa) rfl ?_
    refine K.d_pu rfl (fun _ _ => X.mv) rfl ?_
    refine K.d_st rfl X.ld rfl ?_
    refine K.d_st rfl X.ld rfl ?_
    refine K.d_pu rfl (fun _ _ => K.p_indexAddr (o' := j) (Fx.und rfl) (Fx.sz rfl) rfl rfl (by omega) (by omega) (K.idx01 _)) rfl ?_
    refine K.d_st rfl (K.p_load (Fx.agg rfl) rfl (K.cel_sp 1 rfl hbL ha)) rfl ?_
    refine K.d_pu rfl (fun _ _ => X.badd) rfl ?_
    refine K.d_pu rfl (fun _ _ => K.p_indexAddr (o' := j) (Fx.und rfl) (Fx.sz rfl) rfl rfl (by omega) (by omega) (K.idx01 _)) rfl ?_
    refine K.d_cl rfl (fun KK hKK => ?_)
    refine K.WL.perm (K.pp [1] rfl) ?_
    simp only [List.set_cons_zero, List.set_cons_succ, List.eraseIdx_cons_zero, List.eraseIdx_cons_succ, List.cons_append, List.nil_append]
    refine K.l_storeSp (Fx.sz rfl) rfl rfl rfl hbL hm (List.getElem?_eq_some_iff.1 ha).1 hfz ?_
    refine K.l_nil ?_
    refine K.d_clE hKK ?_
    refine K.d_nil ?_
    (repeat' (first | refine X.rq ?_ | (refine X.rc ?_ ?_ <;> intro hc <;> first | (exfalso; omega) | skip)))
    refine K.AT.perm (K.pp [1] rfl) ?_
    simp only [List.set_cons_zero, List.set_cons_succ, List.eraseIdx_cons_zero, List.eraseIdx_cons_succ, List.cons_append, List.nil_append]
    refine K.a_round hKL (j + 1, _) ⟨by dsimp only; omega, hg1.upd ha⟩ (by repeat (first | exact K.Sub.nil _ | refine K.Sub.cons rfl ?_)) rfl rfl (by dsimp only; omega)
  · clear hb hbf
    (repeat' (first | refine X.rq ?_ | (refine X.rc ?_ ?_ <;> intro hc <;> first | (exfalso; omega) | skip)))
    refine K.c_loop (σ := Nat × (Nat → List Value)) (fun q => [(1, .pointer (some ⟨B1, 0, none⟩)), (3, .int .i64 q.1)]) (fun _ => h) (fun q => blk B1 31 (cR r (.slice ad r.op.data.length cd) (.slice ai r.images.length ci) (.slice al r.lives.length cl) (.slice ay r.dirty.length cy)) :: spA h' L q.2 :: F)
      (fun q => q.1 ≤ r.images.length ∧ Cmp h' L q.2) (fun q => r.images.length - q.1) (0, g1) ⟨Nat.zero_le _, hg1⟩ (by repeat (first | exact K.Sub.nil _ | refine K.Sub.cons rfl ?_)) rfl rfl ?_
    rintro ⟨j, g2⟩ ⟨hj, hg2⟩ KM hKM
    dsimp only at hj hg2 ⊢
    by_cases hjl : j < r.images.length
    · have hc1 : es[j]? = some (es[j]'(by omega)) := List.getElem?_eq_getElem (by omega)
      have he1 : r.images[j]? = some (r.images[j]'(by omega)) := List.getElem?_eq_getElem hjl
      generalize es[j]'(by omega) = c at hc1
      generalize r.images[j]'(by omega) = x at he1
      obtain ⟨hpg, cs, rfl, hwp, cv5, es5, rfl, hs5, hel5, hf5, hr5⟩ := hi4 j c x hc1 he1
      obtain ⟨ao5, ca5, rfl⟩ := hs5.len
      rw [hel5] at hs5 hf5 hc1
      have hwl := hwp.len
      clear hwp hi4
      obtain ⟨bi, arrI, TI, fzI, rfl, hbI, hmI, hfI, hgI⟩ := spR hw hL hi1 hif hc1 hjl
      obtain ⟨u4, hu4, hc4⟩ := hgI g2 hg2 4 _ rfl
      obtain rfl := cmp_slice hc4
      have ho4 : 0 + ((j : Nat) : Int).toNat * 5 + 1 + 3 = j * 5 + 4 := by rw [Int.toNat_natCast, Nat.zero_add]
      have hcel4 : Cel h (blk B1 31 (cR r (.slice ad r.op.data.length cd) (.slice (some ⟨bi, 0, none⟩) r.images.length ci) (.slice al r.lives.length cl) (.slice ay r.dirty.length cy)) :: spA h' L g2 :: F) bi (0 + ((j : Nat) : Int).toNat * 5 + 1 + 3) (.slice ao5 x.to.cells.length ca5) := K.cel_sp 1 rfl hbI (by rw [ho4]; exact hu4)
      (repeat' (first | refine X.rq ?_ | (refine X.rc ?_ ?_ <;> intro hc <;> first | (exfalso; omega) | skip)))
      refine K.c_loop (σ := Nat × (Nat → List Value)) (fun q => [(1, .pointer (some ⟨B1, 0, none⟩)), (3, .int .i64 j), (4, .slice ao5 x.to.cells.length ca5), (5, .int .i64 q.1)]) (fun _ => h) (fun q => blk B1 31 (cR r (.slice ad r.op.data.length cd) (.slice (some ⟨bi, 0, none⟩) r.images.length ci) (.slice al r.lives.length cl) (.slice ay r.dirty.length cy)) :: spA h' L q.2 :: F)
        (fun q => q.1 ≤ x.to.cells.length ∧ Cmp h' L q.2) (fun q => x.to.cells.length - q.1) (0, g2) ⟨Nat.zero_le _, hg2⟩ (by repeat (first | exact K.Sub.nil _ | refine K.Sub.cons rfl ?_)) rfl rfl ?_
      rintro ⟨k, g3⟩ ⟨hk, hg3⟩ KN hKN
      dsimp only at hk hg3 ⊢
      by_cases hkl : k < x.to.cells.length
      · have hd1 : es5[k]? = some (es5[k]'(by omega)) := List.getElem?_eq_getElem (by omega)
        have hz1 : x.to.cells[k]? = some (x.to.cells[k]'(by omega)) := List.getElem?_eq_getElem hkl
        generalize es5[k]'(by omega) = d at hd1
        generalize x.to.cells[k]'(by omega) = z at hz1
        obtain ⟨⟨_, hzl, ao6, ca6, rfl, hb6⟩, hf6⟩ := hr5 k d z hd1 hz1
        have hf6 := hf6 _ rfl
        obtain ⟨bc, arrC, TC, fzC, rfl, hbC, hmC, hfC, hgC⟩ := spR hw hL hs5 hf5 hd1 hkl
        (repeat' (first | refine X.rq ?_ | (refine X.rc ?_ ?_ <;> intro hc <;> first | (exfalso; omega) | skip)))
        refine K.c_loop (σ := Nat × (Nat → List Value)) (fun q => [(1, .pointer (some ⟨B1, 0, none⟩)), (3, .int .i64 j), (4, .slice (some ⟨bc, 0, none⟩) x.to.cells.length ca5), (5, .int .i64 k), (6, .int .i64 q.1)]) (fun _ => h) (fun q => blk B1 31 (cR r (.slice ad r.op.data.length cd) (.slice (some ⟨bi, 0, none⟩) r.images.length ci) (.slice al r.lives.length cl) (.slice ay r.dirty.length cy)) :: spA h' L q.2 :: F)
          (fun q => q.1 ≤ z.data.length ∧ Cmp h' L q.2) (fun q => z.data.length - q.1) (0, g3) ⟨Nat.zero_le _, hg3⟩ (by repeat (first | exact K.Sub.nil _ | refine K.Sub.cons rfl ?_)) rfl rfl ?_
        rintro ⟨m, g4⟩ ⟨hm4, hg4⟩ KO hKO
        dsimp only at hm4 hg4 ⊢
        obtain ⟨u2, hu2, hc2⟩ := hgC g4 hg4 2 _ rfl
        obtain rfl := cmp_slice hc2
        have ho2 : 0 + ((k : Nat) : Int).toNat * 3 + 2 = k * 3 + 2 := by rw [Int.toNat_natCast, Nat.zero_add]
        have hcel2 : Cel h (blk B1 31 (cR r (.slice ad r.op.data.length cd) (.slice (some ⟨bi, 0, none⟩) r.images.length ci) (.slice al r.lives.length cl) (.slice ay r.dirty.length cy)) :: spA h' L g4 :: F) bc (0 + ((k : Nat) : Int).toNat * 3 + 2) (.slice ao6 z.data.length ca6) := K.cel_sp 1 rfl hbC (by rw [ho2]; exact hu2)
        by_cases hml : m < z.data.length
        · obtain ⟨bd, arrD, TD, fzD, rfl, hbD, hmD, hfD, hgD⟩ := spB hw hL hb6 hf6 rfl hml
          obtain ⟨a, ha⟩ := hgD g4 hg4
          (repeat' (first | refine X.rq ?_ | (refine X.rc ?_ ?_ <;> intro hc <;> first | (exfalso; omega) | skip)))
          refine X.draw ([blk B1 31 (cR r (.slice ad r.op.data.length cd) (.slice (some ⟨bi, 0, none⟩) r.images.length ci) (.slice al r.lives.length cl) (.slice ay r.dirty.length cy)), spA h' L g4]) [16] (.pu 0 (.pu 1 (.pu 2 (.pu 3 (.pu 5 (.pu 6 (.pu 7 (.pu 8 (.pu 9 (.pu 11 (.st 4 (.st 10 (.pu 12 (.st 13 (.pu 14 (.pu 15 (.cl 16 .nil))))))))))))))))) ?_
          refine K.d_pu rfl (fun _ _ => X.mv) rfl ?_
          refine K.d_pu rfl (fun _ _ => X.mv) rfl ?_
          refine K.d_pu rfl (fun _ _ => X.ia) rfl ?_
          refine K.d_pu rfl (fun _ _ => X.fa) rfl ?_
          refine K.d_pu rfl (fun _ _ => X.mv) rfl ?_
          refine K.d_pu rfl (fun _ _ => X.mv) rfl ?_
          refine K.d_pu rfl (fun _ _ => X.mv) rfl ?_
          refine K.d_pu rfl (fun _ _ => X.ia) rfl ?_
          refine K.d_pu rfl (fun _ _ => X.fa) rfl ?_
          refine K.d_pu rfl (fun _ _ => X.mv) rfl ?_
          refine K.d_st rfl (K.p_load (Fx.agg rfl) rfl (K.cel_sp 1 rfl hbC (by rw [ho2]; exact hu2))) rfl ?_
          refine K.d_st rfl (K.p_load (Fx.agg rfl) rfl (K.cel_sp 1 rfl hbC (by rw [ho2]; exact hu2))) rfl ?_
          refine K.d_pu rfl (fun _ _ => K.p_indexAddr (o' := m) (Fx.und rfl) (Fx.sz rfl) rfl rfl (by omega) (by omega) (K.idx01 _)) rfl ?_
          refine K.d_st rfl (K.p_load (Fx.agg rfl) rfl (K.cel_sp 1 rfl hbD ha)) rfl ?_
          refine K.d_pu rfl (fun _ _ => X.badd) rfl ?_
          refine K.d_pu rfl (fun _ _ => K.p_indexAddr (o' := m) (Fx.und rfl) (Fx.sz rfl) rfl rfl (by omega) (by omega) (K.idx01 _)) rfl ?_
          refine K.d_cl rfl (fun KK hKK => ?_)
          refine K.WL.perm (K.pp [1] rfl) ?_
          simp only [List.set_cons_zero, List.set_cons_succ, List.eraseIdx_cons_zero, List.eraseIdx_cons_succ, List.cons_append, List.nil_append]
          refine K.l_storeSp (Fx.sz rfl) rfl rfl rfl hbD hmD (List.getElem?_eq_some_iff.1 ha).1 hfD ?_
          refine K.l_nil ?_
          refine K.d_clE hKK ?_
          refine K.d_nil ?_
          (repeat' (first | refine X.rq ?_ | (refine X.rc ?_ ?_ <;> intro hc <;> first | (exfalso; omega) | skip)))
          refine K.AT.perm (K.pp [1] rfl) ?_
          simp only [List.set_cons_zero, List.set_cons_succ, List.eraseIdx_cons_zero, List.eraseIdx_cons_succ, List.cons_append, List.nil_append]
          refine K.a_round hKO (m + 1, _) ⟨by dsimp only; omega, hg4.upd ha⟩ (by repeat (first | exact K.Sub.nil _ | refine K.Sub.cons rfl ?_)) rfl rfl (by dsimp only; omega)
        · obtain ⟨u1, hu1, hc1⟩ := hgC g4 hg4 1 _ rfl
          obtain ⟨a1, rfl⟩ := cmp_int hc1
          have ho1 : 0 + ((k : Nat) : Int).toNat * 3 + 1 = k * 3 + 1 := by rw [Int.toNat_natCast, Nat.zero_add]
          rw [← ho1] at hu1
          have hz1 := hfC 1 (by decide)
          rw [← ho1] at hz1
          (repeat' (first | refine X.rq ?_ | (refine X.rc ?_ ?_ <;> intro hc <;> first | (exfalso; omega) | skip)))
          refine K.WL.perm (K.pp [1] rfl) ?_
          simp only [List.set_cons_zero, List.set_cons_succ, List.eraseIdx_cons_zero, List.eraseIdx_cons_succ, List.cons_append, List.nil_append]
          refine K.l_storeSp (Fx.sz rfl) rfl rfl rfl hbC hmC (List.getElem?_eq_some_iff.1 hu1).1 hz1 ?_
          (repeat' (first | refine X.rq ?_ | (refine X.rc ?_ ?_ <;> intro hc <;> first | (exfalso; omega) | skip)))
          refine K.AT.perm (K.pp [1] rfl) ?_
          simp only [List.set_cons_zero, List.set_cons_succ, List.eraseIdx_cons_zero, List.eraseIdx_cons_succ, List.cons_append, List.nil_append]
          refine K.a_round hKN (k + 1, _) ⟨by dsimp only; omega, hg4.upd hu1⟩ (by repeat (first | exact K.Sub.nil _ | refine K.Sub.cons rfl ?_)) rfl rfl (by dsimp only; omega)
      · obtain ⟨u0, hu0, hc0⟩ := hgI g3 hg3 0 _ rfl
        obtain ⟨a0, rfl⟩ := cmp_int hc0
        have hz0 := hfI 0 (by decide)
        rw [Nat.add_zero] at hu0 hz0
        (repeat' (first | refine X.rq ?_ | (refine X.rc ?_ ?_ <;> intro hc <;> first | (exfalso; omega) | skip)))
        refine K.WL.perm (K.pp [1] rfl) ?_
        simp only [List.set_cons_zero, List.set_cons_succ, List.eraseIdx_cons_zero, List.eraseIdx_cons_succ, List.cons_append, List.nil_append]
        refine K.l_storeSp (o := j * 5) (Fx.sz rfl) (by first | rfl | (show some _ = some _; simp; done)) rfl rfl hbI hmI (List.getElem?_eq_some_iff.1 hu0).1 hz0 ?_
        (repeat' (first | refine X.rq ?_ | (refine X.rc ?_ ?_ <;> intro hc <;> first | (exfalso; omega) | skip)))
        refine K.AT.perm (K.pp [1] rfl) ?_
        simp only [List.set_cons_zero, List.set_cons_succ, List.eraseIdx_cons_zero, List.eraseIdx_cons_succ, List.cons_append, List.nil_append]
        refine K.a_round hKM (j + 1, _) ⟨by dsimp only; omega, hg3.upd hu0⟩ (by repeat (first | exact K.Sub.nil _ | refine K.Sub.cons rfl ?_)) rfl rfl (by dsimp only; omega)
    · clear hi4
      (repeat' (first | refine X.rq ?_ | (refine X.rc ?_ ?_ <;> intro hc <;> first | (exfalso; omega) | skip)))
      refine K.c_loop (σ := Nat × (Nat → List Value)) (fun q => [(1, .pointer (some ⟨B1, 0, none⟩)), (7, .int .i64 q.1)]) (fun _ => h) (fun q => blk B1 31 (cR r (.slice ad r.op.data.length cd) (.slice ai r.images.length ci) (.slice al r.lives.length cl) (.slice ay r.dirty.length cy)) :: spA h' L q.2 :: F)
        (fun q => q.1 ≤ r.lives.length ∧ Cmp h' L q.2) (fun q => r.lives.length - q.1) (0, g2) ⟨Nat.zero_le _, hg2⟩ (by repeat (first | exact K.Sub.nil _ | refine K.Sub.cons rfl ?_)) rfl rfl ?_
      rintro ⟨j, g5⟩ ⟨hj, hg5⟩ KN hKN
      dsimp only at hj hg5 ⊢
      by_cases hjl : j < r.lives.length
      · have hx1 : r.lives[j]? = some (r.lives[j]'(by omega)) := List.getElem?_eq_getElem (by omega)
        generalize r.lives[j]'(by omega) = x at hx1
        have hc0 : (r.lives.map Rc.cL)[j]? = some (Rc.cL x) := by rw [List.getElem?_map, hx1]; rfl
        obtain ⟨b5, arr5, T5, fz5, rfl, hb5, hm5, hfx, hgx⟩ := spR hw hL hl1 hlf hc0 hjl
        obtain ⟨u5, hu5, hc5⟩ := hgx g5 hg5 0 _ rfl
        obtain ⟨a5, rfl⟩ := cmp_int hc5
        have hz5 := hfx 0 (by decide)
        rw [Nat.add_zero] at hu5 hz5
        (repeat' (first | refine X.rq ?_ | (refine X.rc ?_ ?_ <;> intro hc <;> first | (exfalso; omega) | skip)))
        refine K.WL.perm (K.pp [1] rfl) ?_
        simp only [List.set_cons_zero, List.set_cons_succ, List.eraseIdx_cons_zero, List.eraseIdx_cons_succ, List.cons_append, List.nil_append]
        refine K.l_storeSp (o := j * 4) (Fx.sz rfl) (by first | rfl | (show some _ = some _; simp; done)) rfl rfl hb5 hm5 (List.getElem?_eq_some_iff.1 hu5).1 hz5 ?_
        (repeat' (first | refine X.rq ?_ | (refine X.rc ?_ ?_ <;> intro hc <;> first | (exfalso; omega) | skip)))
        refine K.AT.perm (K.pp [1] rfl) ?_
        simp only [List.set_cons_zero, List.set_cons_succ, List.eraseIdx_cons_zero, List.eraseIdx_cons_succ, List.cons_append, List.nil_append]
        refine K.a_round hKN (j + 1, _) ⟨by dsimp only; omega, hg5.upd hu5⟩ (by repeat (first | exact K.Sub.nil _ | refine K.Sub.cons rfl ?_)) rfl rfl (by dsimp only; omega)
      · (repeat' (first | refine X.rq ?_ | (refine X.rc ?_ ?_ <;> intro hc <;> first | (exfalso; omega) | skip)))
        refine K.c_loop (σ := Nat × (Nat → List Value)) (fun q => [(1, .pointer (some ⟨B1, 0, none⟩)), (8, .int .i64 q.1)]) (fun _ => h) (fun q => blk B1 31 (cR r (.slice ad r.op.data.length cd) (.slice ai r.images.length ci) (.slice al r.lives.length cl) (.slice ay r.dirty.length cy)) :: spA h' L q.2 :: F)
          (fun q => q.1 ≤ r.dirty.length ∧ Cmp h' L q.2) (fun q => r.dirty.length - q.1) (0, g5) ⟨Nat.zero_le _, hg5⟩ (by repeat (first | exact K.Sub.nil _ | refine K.Sub.cons rfl ?_)) rfl rfl ?_
        rintro ⟨j, g6⟩ ⟨hj, hg6⟩ KN hKN
        dsimp only at hj hg6 ⊢
        by_cases hjl : j < r.dirty.length
        · have hx1 : r.dirty[j]? = some (r.dirty[j]'(by omega)) := List.getElem?_eq_getElem (by omega)
          generalize r.dirty[j]'(by omega) = x at hx1
          have hc0 : (r.dirty.map Rc.cD)[j]? = some (Rc.cD x) := by rw [List.getElem?_map, hx1]; rfl
          obtain ⟨b5, arr5, T5, fz5, rfl, hb5, hm5, hfx, hgx⟩ := spR hw hL hd1 hdf hc0 hjl
          obtain ⟨u5, hu5, hc5⟩ := hgx g6 hg6 0 _ rfl
          obtain ⟨a5, rfl⟩ := cmp_int hc5
          have hz5 := hfx 0 (by decide)
          rw [Nat.add_zero] at hu5 hz5
          (repeat' (first | refine X.rq ?_ | (refine X.rc ?_ ?_ <;> intro hc <;> first | (exfalso; omega) | skip)))
          refine K.WL.perm (K.pp [1] rfl) ?_
          simp only [List.set_cons_zero, List.set_cons_succ, List.eraseIdx_cons_zero, List.eraseIdx_cons_succ, List.cons_append, List.nil_append]
          refine K.l_storeSp (o := j * 2) (Fx.sz rfl) (by first | rfl | (show some _ = some _; simp; done)) rfl rfl hb5 hm5 (List.getElem?_eq_some_iff.1 hu5).1 hz5 ?_
          (repeat' (first | refine X.rq ?_ | (refine X.rc ?_ ?_ <;> intro hc <;> first | (exfalso; omega) | skip)))
          refine K.AT.perm (K.pp [1] rfl) ?_
          simp only [List.set_cons_zero, List.set_cons_succ, List.eraseIdx_cons_zero, List.eraseIdx_cons_succ, List.cons_append, List.nil_append]
          refine K.a_round hKN (j + 1, _) ⟨by dsimp only; omega, hg6.upd hu5⟩ (by repeat (first | exact K.Sub.nil _ | refine K.Sub.cons rfl ?_)) rfl rfl (by dsimp only; omega)
        · (repeat' (first | refine X.rq ?_ | (refine X.rc ?_ ?_ <;> intro hc <;> first | (exfalso; omega) | skip)))
          refine K.AT.sel [0, 0] rfl ?_
          refine K.done (by first | exact Or.inl rfl | exact Or.inr rfl) rfl (by first | exact K.Base.le.refl _ | assumption) (H' := []) rfl ⟨rfl, rfl⟩

end Go.Proofs.Ytihambjhlhgaeaa.Rc
