/-
 Which records may be, their bytes: the document. Conditions: each theorem's own.
-/
import Derived.Test.YtmcdaegaopfihaaGreatZ30
import Derived.Test.YtmcdaegaopfihaaGreatZ7
namespace Go.Proofs.YtmcdaegaopfihaaGreat.Rc
open Go Go.K Go.Proofs Go.Proofs.YtmcdaegaopfihaaGreat Go.Proofs.YtmcdaegaopfihaaGreat.Pg Go.Proofs.YtmcdaegaopfihaaGreat.Ca Go.Proofs.YtmcdaegaopfihaaGreat.Ra
set_option linter.unusedVariables false
set_option linter.unusedSimpArgs false
set_option maxRecDepth 10000

theorem mayR_no {r : Recd} (h : ¬ okR r) : mayR r = false := by unfold mayR; rw [decide_eq_false h, Bool.false_and]
set_option maxHeartbeats 8000000 in
theorem RefMay (h : Base) (cs : List Value) (r : Recd) (hx : RecC h cs r) (hs : smallR r) : TrV Tryz.prog 82 [.agg cs.toArray] h [] (.bool (mayR r)) [] := by
  have hbare := RefBare h cs r hx
  have hfields := RefFields h cs r hx
  obtain ⟨hw, ad, ai, al, ay, cd, ci, cl, cy, rfl, hb, ⟨es, hi1, hi2, hi3⟩, hl4, hd2⟩ := hx.cells
  have ho : OpC h (cO r.op (.slice ad r.op.data.length cd)) r.op := ⟨hw.op, ad, cd, rfl, hb⟩
  have hright := fun k => RRight h k _ r.op ho
  have hs1 := hs.1
  have hs3 := hs.2.1
  have hs4 := hs.2.2.1
  have ht4 := hw.txn
  refine K.enter Tryz.func82 rfl (Nat.le_of_ble_eq_true rfl) (fun F => ?_)
  simp only [List.nil_append]
  (repeat' first | refine X.rq ?_ | refine X.rc ?_ ?_ <;> intro hc <;> try omega)
  refine K.l_box rfl rfl rfl (fun B1 => ?_)
  have no : ¬ okR r → ∀ E, AT Tryz.prog Tryz.f82.ntmps (K.post Tryz.prog Tryz.f82 fun v w' => ∃ h' H', h.le h' ∧ (v = Value.bool (mayR r) ∧ h' = h ∧ H' = []) ∧ Ok h' (H' ++ F) w') .ret ((2, .bool false) :: E) h (blk B1 45 (cR r (.slice ad r.op.data.length cd) (.slice ai r.images.length ci) (.slice al r.lives.length cl) (.slice ay r.dirty.length cy)) :: F) := fun hn E => by
    rw [mayR_no hn]
    refine K.AT.drop ?_
    refine K.done (by first | exact Or.inl rfl | exact Or.inr rfl) rfl (by first | exact K.Base.le.refl _ | assumption) (H' := []) rfl ⟨rfl, rfl, rfl⟩
  by_cases hk18 : 1 ≤ r.kind ∧ r.kind ≤ 8
  · have hbare := hbare hk18
    by_cases hbp : bareP r
    · rw [decide_eq_true hbp] at hbare
      (repeat' first | refine X.rk ?_ | refine X.rd ?_ ?_ <;> intro hc <;> try omega)
      refine X.w ?_
      (repeat' first | refine X.rs ?_ | refine X.rd ?_ ?_ <;> intro hc <;> try omega)
      refine K.l_callV (Fx.cal rfl) rfl hbare (K.pp [] rfl) rfl rfl ?_
      simp only [List.nil_append]
      (repeat' first | refine X.rs ?_ | refine X.rd ?_ ?_ <;> intro hc <;> try omega)
      apply K.c_seq
      refine K.c_join (β := Unit) (fun _ => [(1, .pointer (some ⟨B1, 0, none⟩))]) (fun _ => h) (fun _ => blk B1 45 (cR r (.slice ad r.op.data.length cd) (.slice ai r.images.length ci) (.slice al r.lives.length cl) (.slice ay r.dirty.length cy)) :: F) (fun _ => hasT r.kind → r.txn ≠ 0) (fun KJ hJ => ?_) (fun _ htx => ?_)
      · by_cases h4 : r.kind = 4
        · (repeat' first | refine X.rq ?_ | refine X.rc ?_ ?_ <;> intro hc <;> try omega)
          refine K.a_join hJ () (fun ht => by unfold hasT at ht; omega) (by repeat (first | exact K.Sub.nil _ | refine K.Sub.cons rfl ?_)) rfl rfl
        · by_cases h8 : r.kind = 8
          · (repeat' first | refine X.rq ?_ | refine X.rc ?_ ?_ <;> intro hc <;> try omega)
            refine K.a_join hJ () (fun ht => by unfold hasT at ht; omega) (by repeat (first | exact K.Sub.nil _ | refine K.Sub.cons rfl ?_)) rfl rfl
          · by_cases htx : r.txn = 0
            · have hn : ¬ okR r := fun ho => ho.2.2.1 (by unfold hasT; omega) htx
              (repeat' first | refine X.rq ?_ | refine X.rc ?_ ?_ <;> intro hc <;> try omega)
              exact no hn _
            · (repeat' first | refine X.rq ?_ | refine X.rc ?_ ?_ <;> intro hc <;> try omega)
              refine K.a_join hJ () (fun _ => htx) (by repeat (first | exact K.Sub.nil _ | refine K.Sub.cons rfl ?_)) rfl rfl
      (repeat' first | refine X.rs ?_ | refine X.rd ?_ ?_ <;> intro hc <;> try omega)
      apply K.c_seq
      refine K.c_join (β := Unit) (fun _ => [(1, .pointer (some ⟨B1, 0, none⟩))]) (fun _ => h) (fun _ => blk B1 45 (cR r (.slice ad r.op.data.length cd) (.slice ai r.images.length ci) (.slice al r.lives.length cl) (.slice ay r.dirty.length cy)) :: F) (fun _ => r.kind = 2 ∨ r.kind = 3 → doesP r) (fun KJ hJ => ?_) (fun _ hdo => ?_)
      · by_cases h23 : r.kind = 2 ∨ r.kind = 3
        · have hop : ¬ doesP r → ¬ okR r := fun hd ho => hd (ho.2.2.2.1 h23)
          by_cases hrt : r.root = 0
          · have hright := hright 1
            have hdp : doesP r ↔ r.page ≠ 0 ∧ ((r.op.kind = 3 ∨ r.op.kind = 4) ↔ r.kind = 3) ∧ rightP 1 r.op ∧ 0 ≤ r.op.slot ∧ r.op.slot < 60 := by unfold doesP; rw [if_neg (by omega)]
            by_cases hrp : rightP 1 r.op
            · rw [decide_eq_true hrp] at hright
              rcases h23 with h2 | h3
              all_goals (repeat' first | refine X.rq ?_ | refine X.rc ?_ ?_ <;> intro hc <;> try omega)
              all_goals first
                | exact no (hop (fun hd => by
                    have hd := hdp.1 hd
                    clear hright hdp hop hb ho hi1 hi3 hl4 hd2 hfields no hJ hbare
                    first | omega | (simp_all; done) | (simp_all; omega))) _
                | (refine K.s_pure (K.p_loadM (Fx.agg rfl) rfl (K.cels_own (pre := [.int .i64 r.kind, .int .u64 r.lsn, .int .u32 r.txn, .int .u64 r.prev, .int .u64 r.undo, .int .u32 r.page, .int .u32 r.root]) (cs := cO r.op (.slice ad r.op.data.length cd)) (post := [.slice ai r.images.length ci, .slice al r.lives.length cl, .slice ay r.dirty.length cy, .int .u32 r.next]) 0 rfl rfl) (Fx.sz rfl) rfl) rfl ?_
                   refine K.s_take rfl rfl ?_
                   refine K.l_callV (Fx.cal rfl) rfl hright (K.pp [] rfl) rfl rfl ?_
                   simp only [List.nil_append]
                   (repeat' first | refine X.rq ?_ | refine X.rc ?_ ?_ <;> intro hc <;> try omega))
              all_goals first
                | exact no (hop (fun hd => by
                    have hd := hdp.1 hd
                    clear hright hdp hop hb ho hi1 hi3 hl4 hd2 hfields no hJ hbare
                    first | omega | (simp_all; done) | (simp_all; omega))) _
                | (refine K.a_join hJ () (fun _ => hdp.2 (by
                    clear hright hdp hop hb ho hi1 hi3 hl4 hd2 hfields no hJ hbare
                    refine ⟨?_, ?_, hrp, ?_, ?_⟩
                    all_goals first | omega | (simp_all; done) | (simp_all; omega))) (by repeat (first | exact K.Sub.nil _ | refine K.Sub.cons rfl ?_)) rfl rfl)
            · rw [decide_eq_false hrp] at hright
              have hn : ¬ okR r := hop fun hd => hrp (hdp.1 hd).2.2.1
              rcases h23 with h2 | h3
              all_goals (repeat' first | refine X.rq ?_ | refine X.rc ?_ ?_ <;> intro hc <;> try omega)
              all_goals first
                | exact no hn _
                | (refine K.s_pure (K.p_loadM (Fx.agg rfl) rfl (K.cels_own (pre := [.int .i64 r.kind, .int .u64 r.lsn, .int .u32 r.txn, .int .u64 r.prev, .int .u64 r.undo, .int .u32 r.page, .int .u32 r.root]) (cs := cO r.op (.slice ad r.op.data.length cd)) (post := [.slice ai r.images.length ci, .slice al r.lives.length cl, .slice ay r.dirty.length cy, .int .u32 r.next]) 0 rfl rfl) (Fx.sz rfl) rfl) rfl ?_
                   refine K.s_take rfl rfl ?_
                   refine K.l_callV (Fx.cal rfl) rfl hright (K.pp [] rfl) rfl rfl ?_
                   simp only [List.nil_append]
                   (repeat' first | refine X.rq ?_ | refine X.rc ?_ ?_ <;> intro hc <;> try omega)
                   exact no hn _)
          · have hright := hright 2
            have hdp : doesP r ↔ r.page ≠ 0 ∧ ((r.op.kind = 3 ∨ r.op.kind = 4) ↔ r.kind = 3) ∧ rightP 2 r.op ∧ 0 ≤ r.op.slot ∧ r.op.slot < 60 := by unfold doesP; rw [if_pos (by omega)]
            by_cases hrp : rightP 2 r.op
            · rw [decide_eq_true hrp] at hright
              rcases h23 with h2 | h3
              all_goals (repeat' first | refine X.rq ?_ | refine X.rc ?_ ?_ <;> intro hc <;> try omega)
              all_goals first
                | exact no (hop (fun hd => by
                    have hd := hdp.1 hd
                    clear hright hdp hop hb ho hi1 hi3 hl4 hd2 hfields no hJ hbare
                    first | omega | (simp_all; done) | (simp_all; omega))) _
                | (refine K.s_pure (K.p_loadM (Fx.agg rfl) rfl (K.cels_own (pre := [.int .i64 r.kind, .int .u64 r.lsn, .int .u32 r.txn, .int .u64 r.prev, .int .u64 r.undo, .int .u32 r.page, .int .u32 r.root]) (cs := cO r.op (.slice ad r.op.data.length cd)) (post := [.slice ai r.images.length ci, .slice al r.lives.length cl, .slice ay r.dirty.length cy, .int .u32 r.next]) 0 rfl rfl) (Fx.sz rfl) rfl) rfl ?_
                   refine K.s_take rfl rfl ?_
                   refine K.l_callV (Fx.cal rfl) rfl hright (K.pp [] rfl) rfl rfl ?_
                   simp only [List.nil_append]
                   (repeat' first | refine X.rq ?_ | refine X.rc ?_ ?_ <;> intro hc <;> try omega))
              all_goals first
                | exact no (hop (fun hd => by
                    have hd := hdp.1 hd
                    clear hright hdp hop hb ho hi1 hi3 hl4 hd2 hfields no hJ hbare
                    first | omega | (simp_all; done) | (simp_all; omega))) _
                | (refine K.a_join hJ () (fun _ => hdp.2 (by
                    clear hright hdp hop hb ho hi1 hi3 hl4 hd2 hfields no hJ hbare
                    refine ⟨?_, ?_, hrp, ?_, ?_⟩
                    all_goals first | omega | (simp_all; done) | (simp_all; omega))) (by repeat (first | exact K.Sub.nil _ | refine K.Sub.cons rfl ?_)) rfl rfl)
            · rw [decide_eq_false hrp] at hright
              have hn : ¬ okR r := hop fun hd => hrp (hdp.1 hd).2.2.1
              rcases h23 with h2 | h3
              all_goals (repeat' first | refine X.rq ?_ | refine X.rc ?_ ?_ <;> intro hc <;> try omega)
              all_goals first
                | exact no hn _
                | (refine K.s_pure (K.p_loadM (Fx.agg rfl) rfl (K.cels_own (pre := [.int .i64 r.kind, .int .u64 r.lsn, .int .u32 r.txn, .int .u64 r.prev, .int .u64 r.undo, .int .u32 r.page, .int .u32 r.root]) (cs := cO r.op (.slice ad r.op.data.length cd)) (post := [.slice ai r.images.length ci, .slice al r.lives.length cl, .slice ay r.dirty.length cy, .int .u32 r.next]) 0 rfl rfl) (Fx.sz rfl) rfl) rfl ?_
                   refine K.s_take rfl rfl ?_
                   refine K.l_callV (Fx.cal rfl) rfl hright (K.pp [] rfl) rfl rfl ?_
                   simp only [List.nil_append]
                   (repeat' first | refine X.rq ?_ | refine X.rc ?_ ?_ <;> intro hc <;> try omega)
                   exact no hn _)
        · (repeat' first | refine X.rq ?_ | refine X.rc ?_ ?_ <;> intro hc <;> try omega)
          refine K.a_join hJ () (fun ht => absurd ht h23) (by repeat (first | exact K.Sub.nil _ | refine K.Sub.cons rfl ?_)) rfl rfl
      (repeat' first | refine X.rs ?_ | refine X.rd ?_ ?_ <;> intro hc <;> try omega)
      apply K.c_seq
      refine K.c_join (β := Unit) (fun _ => [(1, .pointer (some ⟨B1, 0, none⟩))]) (fun _ => h) (fun _ => blk B1 45 (cR r (.slice ad r.op.data.length cd) (.slice ai r.images.length ci) (.slice al r.lives.length cl) (.slice ay r.dirty.length cy)) :: F) (fun _ => r.kind = 4 → r.images.length ≠ 0) (fun KJ hJ => ?_) (fun _ him => ?_)
      · by_cases h4 : r.kind = 4
        · by_cases hl0 : r.images.length = 0
          · have hn : ¬ okR r := fun ho => ho.2.2.2.2.1 h4 hl0
            (repeat' first | refine X.rq ?_ | refine X.rc ?_ ?_ <;> intro hc <;> try omega)
            exact no hn _
          · (repeat' first | refine X.rq ?_ | refine X.rc ?_ ?_ <;> intro hc <;> try omega)
            refine K.a_join hJ () (fun _ => hl0) (by repeat (first | exact K.Sub.nil _ | refine K.Sub.cons rfl ?_)) rfl rfl
        · (repeat' first | refine X.rq ?_ | refine X.rc ?_ ?_ <;> intro hc <;> try omega)
          refine K.a_join hJ () (fun h => absurd h h4) (by repeat (first | exact K.Sub.nil _ | refine K.Sub.cons rfl ?_)) rfl rfl
      (repeat' first | refine X.rq ?_ | refine X.rc ?_ ?_ <;> intro hc <;> try omega)
      refine K.c_loop (σ := Nat × Nat) (fun q => [(1, .pointer (some ⟨B1, 0, none⟩)), (5, .int .u32 q.2), (6, .int .i64 q.1)]) (fun _ => h) (fun _ => blk B1 45 (cR r (.slice ad r.op.data.length cd) (.slice ai r.images.length ci) (.slice al r.lives.length cl) (.slice ay r.dirty.length cy)) :: F)
        (fun q => q.1 ≤ r.images.length ∧ riseQ 0 (r.images.map PImg.page) = riseQ q.2 ((r.images.map PImg.page).drop q.1) ∧ q.2 < 4294967296 ∧ (r.images.take q.1).all imgQ = true) (fun q => r.images.length - q.1) (0, 0) ⟨Nat.zero_le _, rfl, by decide, rfl⟩ (by repeat (first | exact K.Sub.nil _ | refine K.Sub.cons rfl ?_)) rfl rfl ?_
      rintro ⟨j, last⟩ ⟨hj, hr, hlast, hall⟩ KL hKL
      dsimp only at hj hr hlast hall ⊢
      by_cases hjl : j < r.images.length
      · have hc1 : es[j]? = some (es[j]'(by omega)) := List.getElem?_eq_getElem (by omega)
        have hc0 : es[((j : Nat) : Int).toNat]? = some (es[j]'(by omega)) := by rw [Int.toNat_natCast]; exact hc1
        have hx1 : r.images[j]? = some (r.images[j]'(by omega)) := List.getElem?_eq_getElem (by omega)
        have hmem := List.getElem_mem hjl
        generalize es[j]'(by omega) = c at hc0 hc1
        generalize r.images[j]'(by omega) = x at hx1 hmem
        obtain ⟨hpg, cs, rfl, hpc⟩ := hi3 j c x hc1 hx1
        have hmay := RMay h cs x.to hpc
        have hat := all_at imgQ hx1
        rw [hall, Bool.true_and] at hat
        have hwp := hpc.1.lsn
        obtain ⟨_, cv, rfl, es5, hv5, _⟩ := hpc
        obtain ⟨ao5, ca5, rfl⟩ := hv5.len
        have hst := rise_step (last := last) (l := r.images.map PImg.page) (j := j) (x := x.page) (by rw [List.getElem?_map, hx1]; rfl)
        rw [hst] at hr
        have hnl : x.page ≤ last → ¬ okR r := fun hle ho => by
          have := ho.2.2.2.2.2.1
          rw [hr, decide_eq_false (by omega), Bool.false_and] at this
          cases this
        have hni : imgQ x = false → ¬ okR r := fun hq ho => by
          have := ho.2.2.2.2.2.2.1 x hmem
          rw [hq] at this
          cases this
        (repeat' first | refine X.rq ?_ | refine X.rc ?_ ?_ <;> intro hc <;> try omega)
        refine K.s_pureE (K.p_indexL hi1 (Fx.und rfl) (Fx.sz rfl) rfl rfl (by omega) hc0) rfl ?_
        rintro v2 ⟨b2, o2, rfl, hcel⟩
        refine K.s_pure (K.p_loadM (Fx.agg rfl) rfl (Cels.up hcel) (Fx.sz rfl) rfl) rfl ?_
        refine K.l_alloc (Fx.zr rfl) rfl rfl (fun B5 => ?_)
        refine X.stw ?_
        simp only [Go.K.nmz]
        by_cases hxl : x.page ≤ last
        · have hn := hnl hxl
          (repeat' first | refine X.rq ?_ | refine X.rc ?_ ?_ <;> intro hc <;> try omega)
          exact K.AT.drop (no hn _)
        by_cases hx0 : x.to.lsn = 0
        · cases hmx : mayQ x.to with
          | false =>
            have hn := hni (by unfold imgQ; rw [hmx, Bool.false_and])
            rw [hmx] at hmay
            (repeat' first | refine X.rq ?_ | refine X.rc ?_ ?_ <;> intro hc <;> try omega)
            refine K.s_pure (K.p_loadM (Fx.agg rfl) rfl (K.cels_own (pre := [.int .u32 x.page]) (cs := cP x.to (.slice ao5 es5.length ca5)) (post := []) 0 rfl rfl) (Fx.sz rfl) rfl) rfl ?_
            refine K.s_take rfl rfl ?_
            refine K.l_callV (Fx.cal rfl) rfl hmay (K.pp [] rfl) rfl rfl ?_
            simp only [List.nil_append]
            (repeat' first | refine X.rq ?_ | refine X.rc ?_ ?_ <;> intro hc <;> try omega)
            exact K.AT.drop (no hn _)
          | true =>
            rw [hmx] at hmay
            (repeat' first | refine X.rq ?_ | refine X.rc ?_ ?_ <;> intro hc <;> try omega)
            refine K.s_pure (K.p_loadM (Fx.agg rfl) rfl (K.cels_own (pre := [.int .u32 x.page]) (cs := cP x.to (.slice ao5 es5.length ca5)) (post := []) 0 rfl rfl) (Fx.sz rfl) rfl) rfl ?_
            refine K.s_take rfl rfl ?_
            refine K.l_callV (Fx.cal rfl) rfl hmay (K.pp [] rfl) rfl rfl ?_
            simp only [List.nil_append]
            (repeat' first | refine X.rq ?_ | refine X.rc ?_ ?_ <;> intro hc <;> try omega)
            refine K.AT.drop ?_
            refine K.a_round hKL (j + 1, x.page) ⟨by dsimp only; omega, ?_, hpg, ?_⟩ (by repeat (first | exact K.Sub.nil _ | refine K.Sub.cons rfl ?_)) rfl rfl (by dsimp only; omega)
            · dsimp only
              rw [hr, decide_eq_true (by omega), Bool.true_and]
            · dsimp only
              rw [hat]
              unfold imgQ
              rw [hmx, Bool.true_and]
              exact decide_eq_true hx0
        · have hn := hni (by unfold imgQ; rw [decide_eq_false hx0, Bool.and_false])
          (repeat' first | refine X.rq ?_ | refine X.rc ?_ ?_ <;> intro hc <;> try omega)
          exact K.AT.drop (no hn _)
      obtain rfl : j = r.images.length := by omega
      rw [List.take_length] at hall
      rw [List.drop_of_length_le (by simp)] at hr
      have hri : riseQ 0 (r.images.map PImg.page) = true := hr
      have hiq : ∀ x ∈ r.images, imgQ x = true := List.all_eq_true.1 hall
      clear hKL hr
      (repeat' first | refine X.rq ?_ | refine X.rc ?_ ?_ <;> intro hc <;> try omega)
      refine K.c_loop (σ := Nat × Nat) (fun q => [(1, .pointer (some ⟨B1, 0, none⟩)), (5, .int .u32 q.2), (8, .int .i64 q.1)]) (fun _ => h) (fun _ => blk B1 45 (cR r (.slice ad r.op.data.length cd) (.slice ai r.images.length ci) (.slice al r.lives.length cl) (.slice ay r.dirty.length cy)) :: F)
        (fun q => q.1 ≤ r.lives.length ∧ riseQ 0 (r.lives.map PLive.txn) = riseQ q.2 ((r.lives.map PLive.txn).drop q.1) ∧ q.2 < 4294967296) (fun q => r.lives.length - q.1) (0, 0) ⟨Nat.zero_le _, rfl, by decide⟩ (by repeat (first | exact K.Sub.nil _ | refine K.Sub.cons rfl ?_)) rfl rfl ?_
      rintro ⟨j, last⟩ ⟨hj, hr, hlast⟩ KL hKL
      dsimp only at hj hr hlast ⊢
      by_cases hjl : j < r.lives.length
      · have hx1 : r.lives[j]? = some (r.lives[j]'(by omega)) := List.getElem?_eq_getElem (by omega)
        have hmem := List.getElem_mem hjl
        generalize r.lives[j]'(by omega) = x at hx1 hmem
        have hc0 : (r.lives.map cL)[((j : Nat) : Int).toNat]? = some (cL x) := by rw [Int.toNat_natCast, List.getElem?_map, hx1]; rfl
        have hpg := (hw.live x hmem).txn
        have hst := rise_step (last := last) (l := r.lives.map PLive.txn) (j := j) (x := x.txn) (by rw [List.getElem?_map, hx1]; rfl)
        rw [hst] at hr
        have hnl : x.txn ≤ last → ¬ okR r := fun hle ho => by
          have := ho.2.2.2.2.2.2.2.1
          rw [hr, decide_eq_false (by omega), Bool.false_and] at this
          cases this
        (repeat' first | refine X.rq ?_ | refine X.rc ?_ ?_ <;> intro hc <;> try omega)
        refine K.s_pureE (K.p_indexL hl4 (Fx.und rfl) (Fx.sz rfl) rfl rfl (by omega) hc0) rfl ?_
        rintro v2 ⟨b2, o2, rfl, hcel⟩
        (repeat' first | refine X.rq ?_ | refine X.rc ?_ ?_ <;> intro hc <;> try omega)
        refine K.s_pure (K.p_load (Fx.agg rfl) rfl (K.Cel.up hcel.1)) rfl ?_
        by_cases hxl : x.txn ≤ last
        · have hn := hnl hxl
          (repeat' first | refine X.rq ?_ | refine X.rc ?_ ?_ <;> intro hc <;> try omega)
          exact no hn _
        (repeat' first | refine X.rq ?_ | refine X.rc ?_ ?_ <;> intro hc <;> try omega)
        refine K.s_pureE (K.p_indexL hl4 (Fx.und rfl) (Fx.sz rfl) rfl rfl (by omega) hc0) rfl ?_
        rintro v3 ⟨b3, o3, rfl, hcel3⟩
        (repeat' first | refine X.rq ?_ | refine X.rc ?_ ?_ <;> intro hc <;> try omega)
        refine K.s_pure (K.p_load (Fx.agg rfl) rfl (K.Cel.up hcel3.1)) rfl ?_
        (repeat' first | refine X.rq ?_ | refine X.rc ?_ ?_ <;> intro hc <;> try omega)
        refine K.a_round hKL (j + 1, x.txn) ⟨by dsimp only; omega, ?_, hpg⟩ (by repeat (first | exact K.Sub.nil _ | refine K.Sub.cons rfl ?_)) rfl rfl (by dsimp only; omega)
        dsimp only
        rw [hr, decide_eq_true (by omega), Bool.true_and]
      obtain rfl : j = r.lives.length := by omega
      rw [List.drop_of_length_le (by simp)] at hr
      have hrl : riseQ 0 (r.lives.map PLive.txn) = true := hr
      clear hKL hr
      (repeat' first | refine X.rq ?_ | refine X.rc ?_ ?_ <;> intro hc <;> try omega)
      refine K.c_loop (σ := Nat × Nat) (fun q => [(1, .pointer (some ⟨B1, 0, none⟩)), (5, .int .u32 q.2), (9, .int .i64 q.1)]) (fun _ => h) (fun _ => blk B1 45 (cR r (.slice ad r.op.data.length cd) (.slice ai r.images.length ci) (.slice al r.lives.length cl) (.slice ay r.dirty.length cy)) :: F)
        (fun q => q.1 ≤ r.dirty.length ∧ riseQ 0 (r.dirty.map PDirty.page) = riseQ q.2 ((r.dirty.map PDirty.page).drop q.1) ∧ q.2 < 4294967296) (fun q => r.dirty.length - q.1) (0, 0) ⟨Nat.zero_le _, rfl, by decide⟩ (by repeat (first | exact K.Sub.nil _ | refine K.Sub.cons rfl ?_)) rfl rfl ?_
      rintro ⟨j, last⟩ ⟨hj, hr, hlast⟩ KL hKL
      dsimp only at hj hr hlast ⊢
      by_cases hjl : j < r.dirty.length
      · have hx1 : r.dirty[j]? = some (r.dirty[j]'(by omega)) := List.getElem?_eq_getElem (by omega)
        have hmem := List.getElem_mem hjl
        generalize r.dirty[j]'(by omega) = x at hx1 hmem
        have hc0 : (r.dirty.map cD)[((j : Nat) : Int).toNat]? = some (cD x) := by rw [Int.toNat_natCast, List.getElem?_map, hx1]; rfl
        have hpg := (hw.dirt x hmem).page
        have hst := rise_step (last := last) (l := r.dirty.map PDirty.page) (j := j) (x := x.page) (by rw [List.getElem?_map, hx1]; rfl)
        rw [hst] at hr
        have hnl : x.page ≤ last → ¬ okR r := fun hle ho => by
          have := ho.2.2.2.2.2.2.2.2
          rw [hr, decide_eq_false (by omega), Bool.false_and] at this
          cases this
        (repeat' first | refine X.rq ?_ | refine X.rc ?_ ?_ <;> intro hc <;> try omega)
        refine K.s_pureE (K.p_indexL hd2 (Fx.und rfl) (Fx.sz rfl) rfl rfl (by omega) hc0) rfl ?_
        rintro v2 ⟨b2, o2, rfl, hcel⟩
        (repeat' first | refine X.rq ?_ | refine X.rc ?_ ?_ <;> intro hc <;> try omega)
        refine K.s_pure (K.p_load (Fx.agg rfl) rfl (K.Cel.up hcel.1)) rfl ?_
        by_cases hxl : x.page ≤ last
        · have hn := hnl hxl
          (repeat' first | refine X.rq ?_ | refine X.rc ?_ ?_ <;> intro hc <;> try omega)
          exact no hn _
        (repeat' first | refine X.rq ?_ | refine X.rc ?_ ?_ <;> intro hc <;> try omega)
        refine K.s_pureE (K.p_indexL hd2 (Fx.und rfl) (Fx.sz rfl) rfl rfl (by omega) hc0) rfl ?_
        rintro v3 ⟨b3, o3, rfl, hcel3⟩
        (repeat' first | refine X.rq ?_ | refine X.rc ?_ ?_ <;> intro hc <;> try omega)
        refine K.s_pure (K.p_load (Fx.agg rfl) rfl (K.Cel.up hcel3.1)) rfl ?_
        (repeat' first | refine X.rq ?_ | refine X.rc ?_ ?_ <;> intro hc <;> try omega)
        refine K.a_round hKL (j + 1, x.page) ⟨by dsimp only; omega, ?_, hpg⟩ (by repeat (first | exact K.Sub.nil _ | refine K.Sub.cons rfl ?_)) rfl rfl (by dsimp only; omega)
        dsimp only
        rw [hr, decide_eq_true (by omega), Bool.true_and]
      obtain rfl : j = r.dirty.length := by omega
      rw [List.drop_of_length_le (by simp)] at hr
      have hrd : riseQ 0 (r.dirty.map PDirty.page) = true := hr
      clear hKL hr
      have hok : okR r := ⟨hk18, hbp, htx, hdo, him, hri, hiq, hrl, hrd⟩
      have hfields := hfields hok hs
      have hbl := bodyN_len hok hs
      have hbf : (bodyN r).length = (fieldsN r).length + 1 := by unfold bodyN; rw [List.length_append, lebs_length]; omega
      have hmr : mayR r = decide (((fieldsN r).length : Int) + 3 ≤ 16384) := by unfold mayR; rw [decide_eq_true hok, Bool.true_and]; exact decide_eq_decide.2 (by omega)
      rw [hmr]
      (repeat' first | refine X.rq ?_ | refine X.rc ?_ ?_ <;> intro hc <;> try omega)
      refine K.l_call (Fx.cal rfl) rfl hfields (K.pp [] rfl) rfl ?_
      rintro u h' H' - ⟨e, a9, c9, rfl, rfl⟩
      obtain rfl := e.symm
      simp only [List.cons_append, List.nil_append]
      (repeat' first | refine X.rq ?_ | refine X.rc ?_ ?_ <;> intro hc <;> try omega)
      refine K.AT.sel [0, 0] rfl ?_
      refine K.done (by first | exact Or.inl rfl | exact Or.inr rfl) rfl (by first | exact K.Base.le.refl _ | assumption) (H' := []) rfl ⟨rfl, rfl, rfl⟩
    · rw [decide_eq_false hbp] at hbare
      have hn : ¬ okR r := fun ho => hbp ho.2.1
      (repeat' first | refine X.rq ?_ | refine X.rc ?_ ?_ <;> intro hc <;> try omega)
      refine K.l_callV (Fx.cal rfl) rfl hbare (K.pp [] rfl) rfl rfl ?_
      simp only [List.nil_append]
      (repeat' first | refine X.rq ?_ | refine X.rc ?_ ?_ <;> intro hc <;> try omega)
      exact no hn _
  · have hn : ¬ okR r := fun ho => hk18 ho.1
    (repeat' first | refine X.rq ?_ | refine X.rc ?_ ?_ <;> intro hc <;> try omega)
    all_goals exact no hn _
theorem RefEncode (h : Base) (cs : List Value) (r : Recd) (hx : RecC h cs r) (hs : smallR r) : Tr Tryz.prog 52 [.agg cs.toArray] h [] (Gave h (encR r).1) := by
 have hmay := RefMay h cs r hx hs
 have hfields := RefFields h cs r hx
 obtain ⟨hw, ad, ai, al, ay, cd, ci, cl, cy, rfl, _⟩ := hx.cells
 refine K.enter Tryz.func52 rfl (Nat.le_of_ble_eq_true rfl) (fun F => ?_)
 simp only [List.nil_append]
 (repeat' first | refine X.rq ?_ | refine X.rc ?_ ?_ <;> intro hc <;> try omega)
 refine K.l_box rfl rfl rfl (fun B1 => ?_)
 cases hm : mayR r with
 | false =>
  rw [show encR r = ([], 5) by unfold encR; rw [hm]; rfl]
  rw [hm] at hmay
  (repeat' first | refine X.rq ?_ | refine X.rc ?_ ?_ <;> intro hc <;> try omega)
  refine K.l_callV (Fx.cal rfl) rfl hmay (K.pp [] rfl) rfl rfl ?_
  simp only [List.nil_append]
  (repeat' first | refine X.rq ?_ | refine X.rc ?_ ?_ <;> intro hc <;> try omega)
  refine K.AT.drop ?_
  refine K.AT.nilBuf 5 1 ?_
  refine K.done (by first | exact Or.inl rfl | exact Or.inr rfl) rfl (by first | exact K.Base.le.refl _ | assumption) (H' := [bufA 5 1 none 0 0 []]) rfl ⟨rfl, none, 0, rfl, rfl⟩
 | true =>
  rw [show encR r = (encN r, 0) by unfold encR; rw [hm]; rfl]
  rw [hm] at hmay
  obtain ⟨hok, hl⟩ := may_okR hm
  have hfields := hfields hok hs
  have hbf : bodyN r = lebs r.kind.toNat 1 ++ fieldsN r := rfl
  have hbl : (bodyN r).length = (fieldsN r).length + 1 := by rw [hbf, List.length_append, lebs_length]; omega
  obtain ⟨k, hk⟩ : ∃ k : Nat, r.kind = k := ⟨r.kind.toNat, by have := hok.1; omega⟩
  have hk8 : k < 256 := by have := hok.1; omega
  have hkn : r.kind.toNat = k := by omega
  have henc : encN r = lebs ((fieldsN r).length + 3) 2 ++ lebs k 1 ++ fieldsN r := by unfold encN; rw [hbl, hbf, hkn, List.append_assoc]
  rw [henc]
  (repeat' first | refine X.rq ?_ | refine X.rc ?_ ?_ <;> intro hc <;> try omega)
  refine K.l_callV (Fx.cal rfl) rfl hmay (K.pp [] rfl) rfl rfl ?_
  simp only [List.nil_append]
  (repeat' first | refine X.rq ?_ | refine X.rc ?_ ?_ <;> intro hc <;> try omega)
  refine K.l_call (Fx.cal rfl) rfl hfields (K.pp [] rfl) rfl ?_
  rintro u h' H' - ⟨e, a9, c9, rfl, rfl⟩
  obtain rfl := e
  simp only [List.cons_append, List.nil_append]
  generalize fieldsN r = f at hbl henc hl ⊢
  (repeat' first | refine X.rq ?_ | refine X.rc ?_ ?_ <;> intro hc <;> try omega)
  refine K.l_call (Fx.cal rfl) rfl (Fixed h (f.length + 3) 2 (by omega) (by omega)) (K.pp [] rfl) rfl ?_
  rintro u h' H' - ⟨rfl, a2, c2, rfl, rfl⟩
  simp only [List.cons_append, List.nil_append]
  (repeat' first | refine X.rq ?_ | refine X.rc ?_ ?_ <;> intro hc <;> try omega)
  rw [hk]
  (repeat' first | refine X.rq ?_ | refine X.rc ?_ ?_ <;> intro hc <;> try omega)
  refine X.bs (fun B201 => ?_)
  rw [show [Value.int .u8 k] = (lebs k 1).map u8 from one_u8 hk8]
  refine K.WL.bufOf (m := 1) (s := 1) (by simp [lebs_length]) (by unfold maxLen; omega) ?_
  refine l_appBB (l := lebs (f.length + 3) 2) (l2 := lebs k 1) (Fx.und rfl) (Fx.und rfl) rfl rfl (by rw [lebs_length, lebs_length]; omega) rfl (fun a3 c3 => ?_)
  (repeat' first | refine X.rq ?_ | refine X.rc ?_ ?_ <;> intro hc <;> try omega)
  refine K.WL.perm (K.pp [1] rfl) ?_
  simp only [Go.K.nmz]
  refine l_appBB (l := lebs (f.length + 3) 2 ++ lebs k 1) (l2 := f) (Fx.und rfl) (Fx.und rfl) rfl rfl (by rw [List.length_append, lebs_length, lebs_length]; omega) rfl (fun a4 c4 => ?_)
  (repeat' first | refine X.rq ?_ | refine X.rc ?_ ?_ <;> intro hc <;> try omega)
  refine K.AT.sel [1] rfl ?_
  refine K.done (by first | exact Or.inl rfl | exact Or.inr rfl) rfl (by first | exact K.Base.le.refl _ | assumption) (H' := [bufA 5 1 a4 (lebs (f.length + 3) 2 ++ lebs k 1 ++ f).length c4 ((lebs (f.length + 3) 2 ++ lebs k 1 ++ f).map u8)]) rfl ⟨rfl, a4, c4, rfl, rfl⟩
end Go.Proofs.YtmcdaegaopfihaaGreat.Rc
