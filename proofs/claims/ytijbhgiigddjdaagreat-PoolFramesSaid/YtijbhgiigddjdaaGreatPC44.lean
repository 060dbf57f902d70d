/-
 A log's life, plainly: opened, wherever the power went. Conditions: each theorem's own.
-/
import Derived.Test.YtijbhgiigddjdaaGreatPC43
set_option linter.unusedVariables false
set_option linter.unusedSimpArgs false
set_option maxRecDepth 10000
set_option maxHeartbeats 16000000
namespace Go.Proofs.YtijbhgiigddjdaaGreat.Wl
open Go.K Cc Rc

def foundQ (base : Nat) (rs : List Recd) : List Recd := (placesQ 0 rs).map (lsnR base)
def logQ (m : Mas) (rs : List Recd) : Lg := ⟨m, bytesQ rs, startsQ m.base rs, m.base + lenQ rs⟩
theorem opens_tail {D D2 : Dk} {r : Except Int (Lg × List Recd)} {mm : Mas} {rs : List Recd} {m : Nat} (ho : Opens D r D2) (hmm : (rmQ D).1 = .ok mm) (hp0 : (preQ mm (rmQ D).2).1 = 0)
    (hr : RightL rs) (hm : m ≤ rs.length) (hS : lenQ rs ≤ mm.n * 510) (hn : mm.n < (preQ mm (rmQ D).2).2.kept.length) (hc : (preQ mm (rmQ D).2).2.cache = []) (hs : ∀ i, i < mm.n → SecOk (bytesQ rs) (lenQ (rs.take m)) i (V (preQ mm (rmQ D).2).2 (1 + i)))
    (hck : mm.check = 0 ∨ mm.check ∈ startsQ mm.base (rs.take m)) :
    D2.kept.length = (preQ mm (rmQ D).2).2.kept.length ∧
    (∀ i s, Cand D2 i s → (preQ mm (rmQ D).2).2.kept[i]? = some s ∨ (1 ≤ i ∧ i < 1 + mm.n ∧ ∃ j, m ≤ j ∧ j ≤ rs.length ∧ s = secB (bytesQ (rs.take j)) (i - 1))) ∧
    ((r = .error 8 ∧ D2.dark = true ∧ ¬ NoTrip (preQ mm (rmQ D).2).2) ∨
     ∃ j, m ≤ j ∧ j ≤ rs.length ∧ r = .ok (logQ { mm with wiped := false } (rs.take j), foundQ mm.base (rs.take j)) ∧ D2.cache = [] ∧ (NoTrip (preQ mm (rmQ D).2).2 → NoTrip D2) ∧ ∀ i, i < (preQ mm (rmQ D).2).2.kept.length → V D2 i = if 1 ≤ i ∧ i < 1 + mm.n then secB (bytesQ (rs.take j)) (i - 1) else V (preQ mm (rmQ D).2).2 i) := by
  obtain ⟨a1, a2, a3⟩ := tail_sem hr hm hS hn hc hs
  have same : ∀ {x y : Mas}, (rmQ D).1 = .ok x → (rmQ D).1 = .ok y → x = y := fun h h' => by rw [h] at h'; exact Except.ok.inj h'
  cases ho with
  | noMaster h => rw [h] at hmm; cases hmm
  | noWipe h h' => cases same h hmm; exact absurd hp0 h'
  | noRead h h' h2 =>
    cases same h hmm
    rcases a3 with ⟨e, e2, e3⟩ | ⟨old, st, j, e, _⟩
    · rw [e] at h2; cases h2
      exact ⟨by rw [a1], fun i s hx => .inl (by rw [← a1]; exact cand_kept a2 hx), .inl ⟨rfl, e2, e3⟩⟩
    · rw [e] at h2; cases h2
  | noPart h h' h2 hpa hbad =>
    cases same h hmm
    rcases a3 with ⟨e, _⟩ | ⟨old, st, j, e, _, j1, j2, jp, _⟩
    · rw [e] at h2; cases h2
    · rw [e] at h2; cases h2
      obtain ⟨rfl, rfl, rfl⟩ := part_one hpa jp
      refine absurd ?_ (hbad.resolve_left (fun h => h rfl))
      rcases hck with h | h
      · exact .inl h
      · right
        show _ ∈ startsQ _ _
        rw [show rs.take m = (rs.take j).take m by rw [List.take_take, Nat.min_eq_left j1], starts_take] at h
        exact List.mem_of_mem_take h
  | noMend h h' h2 hpa hck' hbad =>
    cases same h hmm
    rcases a3 with ⟨e, _⟩ | ⟨old, st, j, e, en, j1, j2, jp, jt, jw, jk, jc, jv⟩
    · rw [e] at h2; cases h2
    · rw [e] at h2; cases h2
      obtain ⟨rfl, rfl, -⟩ := part_one hpa jp
      rw [jt] at hbad ⊢
      rcases jw.err with h8 | ⟨h8, h9⟩
      · exact absurd h8 hbad
      · rw [h8]
        refine ⟨jk, fun i s hx => ?_, .inl ⟨rfl, h9, fun hn => hbad (jw.on (en hn)).1⟩⟩
        rcases jc i s hx with h | ⟨x, y, z⟩
        · exact .inl h
        · exact .inr ⟨x, y, j, j1, j2, z⟩
  | ok h h' h2 hpa hck' hgood =>
    cases same h hmm
    rcases a3 with ⟨e, _⟩ | ⟨old, st, j, e, en, j1, j2, jp, jt, jw, jk, jc, jv⟩
    · rw [e] at h2; cases h2
    · rw [e] at h2; cases h2
      obtain ⟨rfl, rfl, -⟩ := part_one hpa jp
      rw [jt] at hgood ⊢
      obtain ⟨v1, v2⟩ := jv hgood
      refine ⟨jk, fun i s hx => ?_, .inr ⟨j, j1, j2, rfl, v1, fun hn => (jw.on (en hn)).2, v2⟩⟩
      rcases jc i s hx with h | ⟨x, y, z⟩
      · exact .inl h
      · exact .inr ⟨x, y, j, j1, j2, z⟩
theorem stp_ok {D D2 : Dk} {r : Except Int (Lg × List Recd)} (ho : Opens D r D2) (hk : DkOk D) (hr : D.cache.length + 30000 ≤ roomMax) : DkOk D2 ∧ D2.kept.length = D.kept.length := by
 obtain ⟨a1, a2, a3⟩ := rm_ok hk
 have hp : ∀ {m : Mas}, (rmQ D).1 = .ok m → DkOk (preQ m (rmQ D).2).2 ∧ (preQ m (rmQ D).2).2.cache.length ≤ D.cache.length + 9000 ∧ (preQ m (rmQ D).2).2.kept.length = D.kept.length ∧ m.n ≤ 8192 := fun h => by
  have h1 := (rm_mas hk h).1.n
  obtain ⟨x, y, z⟩ := pre_ok a1 h1 (by rw [a2]; omega)
  rw [a2] at y; rw [a3] at z
  exact ⟨x, y, z, h1⟩
 cases ho with
 | noMaster h => exact ⟨a1, by rw [a3]⟩
 | noWipe h h' => obtain ⟨x, y, z, _⟩ := hp h; exact ⟨x, z⟩
 | noRead h h' h2 => obtain ⟨x, y, z, w⟩ := hp h; obtain ⟨b1, b2, b3, _⟩ := ra_ok _ 0 [] [] false x; exact ⟨b1, by rw [b3]; exact z⟩
 | noPart h h' h2 _ _ => obtain ⟨x, y, z, w⟩ := hp h; obtain ⟨b1, b2, b3, _⟩ := ra_ok _ 0 [] [] false x; exact ⟨b1, by rw [b3]; exact z⟩
 | noMend h h' h2 hpa hck' hbad =>
  obtain ⟨x, y, z, w⟩ := hp h
  obtain ⟨b1, b2, b3, _, b5⟩ := ra_ok _ 0 [] [] false x
  have b5 := (b5 _ _ h2).1
  rw [List.length_nil, Nat.zero_add] at b5
  obtain ⟨c1, c2, c3⟩ := mend_ok (List.take _ _) _ 0 b1 (by rw [b2, b5]; omega)
  exact ⟨c1, by rw [c3, b3]; exact z⟩
 | ok h h' h2 hpa hck' hbad =>
  obtain ⟨x, y, z, w⟩ := hp h
  obtain ⟨b1, b2, b3, _, b5⟩ := ra_ok _ 0 [] [] false x
  have b5 := (b5 _ _ h2).1
  rw [List.length_nil, Nat.zero_add] at b5
  obtain ⟨c1, c2, c3⟩ := mend_ok (List.take _ _) _ 0 b1 (by rw [b2, b5]; omega)
  exact ⟨c1, by rw [c3, b3]; exact z⟩
theorem open_dead {D D2 : Dk} {r : Except Int (Lg × List Recd)} {n base kept : Nat} {rs : List Recd} {m : Nat} {brk : Option Nat} (ho : Opens D r D2) (hk : DkOk D) (hc : D.cache = []) (hd : Dead D n base kept rs m brk)
    (n1 : 16 ≤ n) (n2 : n < D.kept.length) (b1 : 1 ≤ base) (b2 : base + lenQ rs ≤ lastLSN) (k1 : kept < 4294967296) (k2 : ∀ x, brk = some x → x < 4294967296) (hr : RightL rs) (hm : m ≤ rs.length) (hS : lenQ rs ≤ n * 510) :
    DkOk D2 ∧ D2.kept.length = D.kept.length ∧ Dead D2 n base kept rs m brk ∧ (NoTrip D → NoTrip D2) ∧
    ((∃ j L, m ≤ j ∧ j ≤ rs.length ∧ r = .ok (L, foundQ base (rs.take j)) ∧ Run D2 L (rs.take j) j ∧ L.m.n = n ∧ L.m.base = base ∧ L.m.kept = kept) ∨
     (∃ x L, brk = some x ∧ r = .ok (L, []) ∧ Run D2 L [] 0 ∧ L.m.n = n ∧ L.m.base = base + lenQ rs ∧ L.m.kept = x) ∨
     (r = .error 8 ∧ D2.dark = true ∧ ¬ NoTrip D)) := by
  obtain ⟨ok2, kl2⟩ := stp_ok ho hk (by rw [hc]; decide)
  have hf := hk.few
  have hlast : lastLSN < 18446744073709551616 := by decide
  have hcv : Cand D 0 (V D 0) := view_cand (by omega)
  have hcs : ∀ i, i < n → Cand D (1 + i) (V D (1 + i)) := fun i hi => view_cand (by omega)
  have hckb : ∀ c, (c = 0 ∨ c ∈ startsQ base (rs.take m)) → c < 18446744073709551616 := fun c h => by
    rcases h with rfl | h
    · decide
    · have := (starts_rise base (rs.take m) (hr.take m)).2.1 c h
      have := len_take_le rs m
      omega
  -- a log whose master is whole
  have old : ∀ (mm : Mas) (rs' : List Recd) (m' : Nat), V D 0 = masterB mm → mm.n = n → mm.wiped = false → MasOk mm → 1 ≤ mm.base → mm.base + lenQ rs' ≤ lastLSN → RightL rs' → m' ≤ rs'.length → lenQ rs' ≤ n * 510 →
      (mm.check = 0 ∨ mm.check ∈ startsQ mm.base (rs'.take m')) → (∀ i, i < n → SecOk (bytesQ rs') (lenQ (rs'.take m')) i (V D (1 + i))) →
      (∀ i s, Cand D2 i s → D.kept[i]? = some s ∨ (1 ≤ i ∧ i < 1 + n ∧ ∃ j, m' ≤ j ∧ j ≤ rs'.length ∧ s = secB (bytesQ (rs'.take j)) (i - 1))) ∧ (NoTrip D → NoTrip D2) ∧
      ((r = .error 8 ∧ D2.dark = true ∧ ¬ NoTrip D) ∨ ∃ j, m' ≤ j ∧ j ≤ rs'.length ∧ r = .ok (logQ mm (rs'.take j), foundQ mm.base (rs'.take j)) ∧ Run D2 (logQ mm (rs'.take j)) (rs'.take j) j) := by
    intro mm rs' m' hv e1 e2 mo mb me hr' hm' hS' hck hs
    obtain ⟨g1, g2, g3⟩ := rm_sem hv mo (by omega) (by omega) mb (by omega)
    rcases g3 with ⟨g3, g4⟩ | ⟨g3, g4, g5⟩
    · have hp : preQ mm (rmQ D).2 = (0, (rmQ D).2) := by unfold preQ; rw [e2]; rfl
      have hp2 : (preQ mm (rmQ D).2).2 = (rmQ D).2 := by rw [hp]
      have hvv : ∀ i, V (rmQ D).2 i = V D i := V.of g1 g2
      obtain ⟨q1, q2, q3⟩ := opens_tail ho g3 (by rw [hp]) hr' hm' (by rw [e1]; exact hS') (by rw [hp2, g1, e1]; exact n2) (by rw [hp2, g2, hc]) (by rw [hp2, e1]; intro i hi; rw [hvv]; exact hs i hi) hck
      have em : { mm with wiped := false } = mm := by obtain ⟨_, _, _, _, _⟩ := mm; dsimp only at e2 ⊢; rw [e2]
      rw [hp2] at q1 q2 q3
      rw [em] at q3
      rw [g1, e1] at q2 q3
      refine ⟨q2, fun hn => ?_, ?_⟩
      · rcases q3 with ⟨_, _, q⟩ | ⟨j, _, _, _, _, q, _⟩
        · exact absurd (g4 hn) q
        · exact q (g4 hn)
      · rcases q3 with ⟨x, y, z⟩ | ⟨j, j1, j2, j3, j4, j5, j6⟩
        · exact .inl ⟨x, y, fun hn => z (g4 hn)⟩
        · have hlj := len_take_le rs' j
          have hjl : (rs'.take j).length = j := by rw [List.length_take]; omega
          refine .inr ⟨j, j1, j2, j3, ok2, j4, by show 16 ≤ mm.n; omega, by show mm.n < _; omega, mo, e2, mb, ?_, hr'.take j, rfl, rfl, by omega, ?_, ?_, ?_, ?_, fun i hi => ?_⟩
          · show mm.base + lenQ (rs'.take j) ≤ lastLSN; omega
          · show mm.base + lenQ (rs'.take j) = mm.base + lenQ ((rs'.take j).take j); rw [List.take_take, Nat.min_self]
          · show mm.check = 0 ∨ mm.check ∈ startsQ mm.base ((rs'.take j).take j)
            rw [List.take_take, Nat.min_self]
            rcases hck with h | h
            · exact .inl h
            · right
              rw [show rs'.take m' = (rs'.take j).take m' by rw [List.take_take, Nat.min_eq_left j1], starts_take] at h
              exact List.mem_of_mem_take h
          · show lenQ (rs'.take j) ≤ mm.n * 510; rw [e1]; omega
          · show V D2 0 = masterB mm
            rw [j6 0 (by omega), if_neg (by omega), hvv, hv]
          · rw [show (logQ mm (rs'.take j)).m.n = n from e1] at hi
            rw [j6 (1 + i) (by omega), if_pos (by omega), Nat.add_sub_cancel_left, List.take_take, Nat.min_self]
    · cases ho with
      | noMaster h =>
        rw [h] at g3; cases g3
        exact ⟨fun i s hx => .inl (cand_kept hc (hx.of g1 g2)), fun hn => absurd hn g5, .inl ⟨rfl, g4, g5⟩⟩
      | noWipe h _ => rw [h] at g3; cases g3
      | noRead h _ _ => rw [h] at g3; cases g3
      | noPart h _ _ _ _ => rw [h] at g3; cases g3
      | noMend h _ _ _ _ _ => rw [h] at g3; cases g3
      | ok h _ _ _ _ _ => rw [h] at g3; cases g3
  -- a log whose master is wiped
  have wip : ∀ x, brk = some x → V D 0 = masterB ⟨n, base + lenQ rs, 0, x, true⟩ →
      Dead D2 n base kept rs m brk ∧ (NoTrip D → NoTrip D2) ∧ ((∃ L, r = .ok (L, []) ∧ Run D2 L [] 0 ∧ L.m.n = n ∧ L.m.base = base + lenQ rs ∧ L.m.kept = x) ∨ (r = .error 8 ∧ D2.dark = true ∧ ¬ NoTrip D)) := by
    intro x hx hv
    have mo : MasOk ⟨n, base + lenQ rs, 0, x, true⟩ := ⟨by show n ≤ 8192; omega, by show base + lenQ rs < _; omega, by show (0 : Nat) < _; decide, k2 x hx⟩
    have mo' : MasOk ⟨n, base + lenQ rs, 0, x, false⟩ := ⟨by show n ≤ 8192; omega, by show base + lenQ rs < _; omega, by show (0 : Nat) < _; decide, k2 x hx⟩
    have hb0 : BInv D n (base + lenQ rs) x := fun s hs => by
      have h1 := cand_kept hc hs
      rw [view_kept hc (by omega)] at h1
      cases h1; exact hv
    obtain ⟨g1, g2, g3⟩ := rm_sem hv mo n1 n2 (by show 1 ≤ base + lenQ rs; omega) b2
    rcases g3 with ⟨g3, g4⟩ | ⟨g3, g4, g5⟩
    rotate_left
    · cases ho with
      | noMaster h =>
        rw [h] at g3; cases g3
        exact ⟨.inr ⟨x, hx, .inl fun s hs => hb0 s (hs.of g1 g2)⟩, fun hn => absurd hn g5, .inr ⟨rfl, g4, g5⟩⟩
      | noWipe h _ => rw [h] at g3; cases g3
      | noRead h _ _ => rw [h] at g3; cases g3
      | noPart h _ _ _ _ => rw [h] at g3; cases g3
      | noMend h _ _ _ _ _ => rw [h] at g3; cases g3
      | ok h _ _ _ _ _ => rw [h] at g3; cases g3
    obtain ⟨p1, p2, p3⟩ := pre_sem (D := (rmQ D).2) (n := n) (b := base + lenQ rs) (kp := x) (by rw [g2, hc]) (by rw [g1]; exact n2) (by rw [V.of g1 g2]; exact hv)
    rcases p3 with ⟨e0, e1, e2, e3⟩ | ⟨e8, e9⟩
    · obtain ⟨q1, q2, q3⟩ := opens_tail (rs := []) (m := 0) ho g3 e0 (fun _ h => by cases h) (Nat.le_refl _) (Nat.zero_le _) (by rw [p2, g1]; exact n2) e1 (fun i hi => ⟨0, Nat.le_refl _, Nat.zero_le _, by rw [e3 i hi, sec_zs (Nat.zero_le _)]⟩) (.inl rfl)
      have hkl : (preQ ⟨n, base + lenQ rs, 0, x, true⟩ (rmQ D).2).2.kept.length = D.kept.length := by rw [p2, g1]
      have hcinv : CInv D2 n (base + lenQ rs) x := ⟨fun s hs => ⟨false, by
          rcases q2 0 s hs with h | ⟨h, _⟩
          · rw [view_kept e1 (by omega), e2] at h; cases h; rfl
          · omega⟩, fun i hi s hs => by
          rcases q2 (1 + i) s hs with h | ⟨_, _, j, _, _, h⟩
          · rw [view_kept e1 (by omega), e3 i hi] at h; cases h; rfl
          · rw [h, List.take_nil]; exact sec_zs (Nat.zero_le _)⟩
      refine ⟨.inr ⟨x, hx, .inr hcinv⟩, fun hn => ?_, ?_⟩
      · rcases q3 with ⟨_, _, q⟩ | ⟨j, _, _, _, _, q, _⟩
        · exact absurd (p1.on (g4 hn)).2 q
        · exact q (p1.on (g4 hn)).2
      · rcases q3 with ⟨a, b, c⟩ | ⟨j, j1, j2, j3, j4, j5, j6⟩
        · exact .inr ⟨a, b, fun hn => c (p1.on (g4 hn)).2⟩
        · rw [List.take_nil] at j3 j6
          refine .inl ⟨_, j3, ⟨ok2, j4, n1, by show n < _; omega, mo', rfl, by show 1 ≤ base + lenQ rs; omega, ?_, (fun _ h => by cases h), rfl, rfl, Nat.le_refl _, rfl, .inl rfl, Nat.zero_le _, ?_, fun i hi => ?_⟩, rfl, rfl, rfl⟩
          · show base + lenQ rs + 0 ≤ lastLSN; omega
          · show V D2 0 = masterB _
            rw [j6 0 (by omega), if_neg (by omega), e2]; rfl
          · have hi : i < n := hi
            rw [j6 (1 + i) (by omega), if_pos (by show 1 ≤ 1 + i ∧ 1 + i < 1 + n; omega), Nat.add_sub_cancel_left]; rfl
    · have hno : ¬ NoTrip (rmQ D).2 := fun hn => by have := (p1.on hn).1; omega
      cases ho with
      | noMaster h => rw [h] at g3; cases g3
      | noWipe h h' =>
        rw [h] at g3; cases g3
        refine ⟨.inr ⟨x, hx, e9⟩, fun hn => absurd (g4 hn) hno, .inr ⟨by rw [e8], ?_, fun hn => hno (g4 hn)⟩⟩
        rcases p1.err with h | h
        · omega
        · exact h.2
      | noRead h h' _ => rw [h] at g3; cases g3; omega
      | noPart h h' _ _ _ => rw [h] at g3; cases g3; omega
      | noMend h h' _ _ _ _ => rw [h] at g3; cases g3; omega
      | ok h h' _ _ _ _ => rw [h] at g3; cases g3; omega
  rcases hd with hA | ⟨x, hx, hB | hC⟩
  · rcases hA.mas _ hcv with ⟨c, c1, c2⟩ | ⟨x, hx, hv⟩
    · obtain ⟨q1, q2, q3⟩ := old ⟨n, base, c, kept, false⟩ rs m c2 rfl rfl ⟨by show n ≤ 8192; omega, by show base < _; omega, hckb c c1, k1⟩ b1 b2 hr hm hS c1 (fun i hi => hA.sec i hi _ (hcs i hi))
      refine ⟨ok2, kl2, .inl ⟨fun s hs => ?_, fun i hi s hs => ?_⟩, q2, ?_⟩
      · rcases q1 0 s hs with h | ⟨h, _⟩
        · exact hA.mas s (.inl h)
        · omega
      · rcases q1 (1 + i) s hs with h | ⟨_, _, j, j1, j2, h⟩
        · exact hA.sec i hi s (.inl h)
        · rw [Nat.add_sub_cancel_left] at h
          refine ⟨lenQ (rs.take j), ?_, len_take_le rs j, by rw [h, bytes_take]⟩
          have := len_take_le (rs.take j) m
          rwa [List.take_take, Nat.min_eq_left j1] at this
      · rcases q3 with h | ⟨j, j1, j2, j3, j4⟩
        · exact .inr (.inr h)
        · exact .inl ⟨j, _, j1, j2, j3, j4, rfl, rfl, rfl⟩
    · obtain ⟨q1, q2, q3⟩ := wip x hx hv
      refine ⟨ok2, kl2, q1, q2, ?_⟩
      rcases q3 with ⟨L, h⟩ | h
      · exact .inr (.inl ⟨x, L, hx, h⟩)
      · exact .inr (.inr h)
  · obtain ⟨q1, q2, q3⟩ := wip x hx (hB _ hcv)
    refine ⟨ok2, kl2, q1, q2, ?_⟩
    rcases q3 with ⟨L, h⟩ | h
    · exact .inr (.inl ⟨x, L, hx, h⟩)
    · exact .inr (.inr h)
  · obtain ⟨w, hv⟩ := hC.mas _ hcv
    cases w with
    | true =>
      obtain ⟨q1, q2, q3⟩ := wip x hx hv
      refine ⟨ok2, kl2, q1, q2, ?_⟩
      rcases q3 with ⟨L, h⟩ | h
      · exact .inr (.inl ⟨x, L, hx, h⟩)
      · exact .inr (.inr h)
    | false =>
      obtain ⟨q1, q2, q3⟩ := old ⟨n, base + lenQ rs, 0, x, false⟩ [] 0 hv rfl rfl ⟨by show n ≤ 8192; omega, by show base + lenQ rs < _; omega, by show (0 : Nat) < _; decide, k2 x hx⟩ (by show 1 ≤ base + lenQ rs; omega) (by show base + lenQ rs + 0 ≤ lastLSN; omega) (fun _ h => by cases h) (Nat.le_refl _) (Nat.zero_le _) (.inl rfl) (fun i hi => ⟨0, Nat.le_refl _, Nat.zero_le _, by rw [hC.sec i hi _ (hcs i hi), sec_zs (Nat.zero_le _)]⟩)
      refine ⟨ok2, kl2, .inr ⟨x, hx, .inr ⟨fun s hs => ?_, fun i hi s hs => ?_⟩⟩, q2, ?_⟩
      · rcases q1 0 s hs with h | ⟨h, _⟩
        · exact hC.mas s (.inl h)
        · omega
      · rcases q1 (1 + i) s hs with h | ⟨_, _, j, j1, j2, h⟩
        · exact hC.sec i hi s (.inl h)
        · rw [h, List.take_nil]; exact sec_zs (Nat.zero_le _)
      · rcases q3 with h | ⟨j, j1, j2, j3, j4⟩
        · exact .inr (.inr h)
        · obtain rfl : j = 0 := by simpa using j2
          rw [List.take_nil] at j3 j4
          exact .inr (.inl ⟨x, _, hx, j3, j4, rfl, rfl, rfl⟩)
end Go.Proofs.YtijbhgiigddjdaaGreat.Wl
