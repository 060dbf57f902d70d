/-
 A log's life, plainly: made, appended to, flushed, marked, emptied. Conditions: each theorem's own.
-/
import Derived.Test.YtmcdaegaopfihaaGreatY42
namespace Go.Proofs.YtmcdaegaopfihaaGreat.Wl
open Go Go.K Go.Proofs Go.Proofs.YtmcdaegaopfihaaGreat Go.Proofs.YtmcdaegaopfihaaGreat.Cc Go.Proofs.YtmcdaegaopfihaaGreat.Rc
set_option linter.unusedVariables false
set_option linter.unusedSimpArgs false
set_option maxRecDepth 10000

theorem format_run {D : Dk} {n : Nat} (hk : DkOk D) (hc : D.cache = []) (hn : NoTrip D) (n1 : 16 ≤ n) (n2 : n < D.kept.length) :
  (formatQ n D).1 = 0 ∧ NoTrip (formatQ n D).2 ∧ (formatQ n D).2.kept.length = D.kept.length ∧ Run (formatQ n D).2 ⟨master0 n, [], [], 1⟩ [] 0 := by
 have hf := hk.few
 have e : formatQ n D = stepsQ [wipeS n, writeS (master0 n), syncS] D := by unfold formatQ; rw [if_neg (by omega), Int.toNat_natCast]
 have hok : DkOk (formatQ n D).2 := by
  rw [e]
  exact (steps_ok (fun s hs => by
   simp only [List.mem_cons, List.not_mem_nil, or_false] at hs
   rcases hs with rfl | rfl | rfl
   ·exact wipeS_good _
   ·exact writeS_good _
   ·exact syncS_good) hk (by rw [hc]; simp only [sumK, wipeS, writeS, syncS, List.length_nil]; unfold roomMax; omega)).1
 rw [e] at hok ⊢
 obtain ⟨w1, w2, w3, w4⟩ := wipe_ran n 0 (D := D) (by omega)
 obtain ⟨w5, w6⟩ := w1.on hn
 have w4 := w4 w5
 rw [steps_one, show (wipeS n).q D = wipeQ n 0 D from rfl, if_neg (by omega), steps_one] at hok ⊢
 generalize wipeQ n 0 D = r1 at w1 w2 w3 w4 w5 w6 hok ⊢
 have hml := master_len (master0 n)
 obtain ⟨t1, t2, t3⟩ := write_sem (D := r1.2) (a := 0) (by rw [w2]; omega) hml
 obtain ⟨t5, t6⟩ := t1.on w6
 have v3 := write_view (D := r1.2) (a := 0) (by rw [w2]; omega) hml t5
 rw [show (writeS (master0 n)).q r1.2 = writeQ r1.2 ((0 : Nat) : Int) (masterB (master0 n)) from rfl, if_neg (by omega), steps_one] at hok ⊢
 generalize writeQ r1.2 ((0 : Nat) : Int) (masterB (master0 n)) = r2 at t1 t2 t3 t5 t6 v3 hok ⊢
 obtain ⟨u1, u2⟩ := sync_sem r2.2
 obtain ⟨u5, u6⟩ := u1.on t6
 rw [show syncS.q r2.2 = syncQ r2.2 from rfl, if_neg (by omega), steps_nil] at hok ⊢
 have kl : (syncQ r2.2).2.kept.length = D.kept.length ∧ (syncQ r2.2).2.cache = [] := by
  rcases u2 with ⟨_, h, h'⟩ | ⟨h, _, _⟩
  ·exact ⟨by rw [h, setL_len, t2, w2], h'⟩
  ·omega
 refine ⟨rfl, u6, kl.1, hok, kl.2, n1, by rw [kl.1]; exact n2, ⟨by show n ≤ 8192; omega, by show (1 : Nat) < _; decide, by show (0 : Nat) < _; decide, by show (0 : Nat) < _; decide⟩, rfl, Nat.le_refl _, by show 1 + 0 ≤ lastLSN; decide, (fun _ h => by cases h), rfl, rfl, Nat.le_refl _, rfl, .inl rfl, Nat.zero_le _, ?_, fun i hi => ?_⟩
 ·rw [sync_view (by rw [t2, w2]; omega), v3, if_pos rfl]
 ·have hi : i < n := hi
  rw [sync_view (by rw [t2, w2]; omega), v3, if_neg (by omega), w4, if_pos (by omega)]
  exact (sec_zs (Nat.zero_le _)).symm
theorem append_run {D : Dk} {L : Lg} {rs : List Recd} {m : Nat} {r : Recd} (h : Run D L rs m) (hw : wfX r) (he : (encR r).2 = 0) (hr : (encR r).1.length ≤ roomQ L) : Run D (appQ L r).2 (rs ++ [r]) m := by
 have h3 := enc_pos he
 have hmay : mayR r = true := by
  unfold encR at he
  split at he
  ·assumption
  ·cases he
 have hen : (encR r).1 = encN r := by unfold encR; rw [if_pos hmay]
 rw [hen] at hr h3
 have hap : (appQ L r).2 = { L with stream := L.stream ++ encN r, starts := L.starts ++ [endQ L] } := by
  unfold appQ; rw [if_neg (by omega), if_neg (by rw [hen]; omega), hen]
 have hsl : L.stream.length = lenQ rs := by rw [h.str]; rfl
 have hend : endQ L = L.m.base + lenQ rs := by unfold endQ; rw [hsl]
 have hroom : endQ L + (encN r).length ≤ lastLSN ∧ lenQ rs + (encN r).length ≤ L.m.n * 510 := by
  unfold roomQ at hr
  split at hr
  ·omega
  ·rw [hsl] at hr; omega
 have hmt : (rs ++ [r]).take m = rs.take m := List.take_append_of_le_length h.few
 rw [hap]
 refine ⟨h.ok, h.cache, h.n1, h.n2, h.mas, h.wip, h.base, ?_, h.right.snoc hmay hw, ?_, ?_, by rw [List.length_append]; have := h.few; omega, by rw [hmt]; exact h.dur, by rw [hmt]; exact h.chk, by rw [len_snoc]; exact hroom.2, h.v0, by rw [hmt]; exact h.vi⟩
 ·show L.m.base + (L.stream ++ encN r).length ≤ lastLSN
  rw [List.length_append, hsl]; omega
 ·show L.stream ++ encN r = _
  rw [bytes_snoc, h.str]
 ·show L.starts ++ [endQ L] = _
  rw [starts_snoc, h.sts, hend]
theorem flush_run {D : Dk} {L : Lg} {rs : List Recd} {m : Nat} (h : Run D L rs m) : Pow D ((flushQ L D).1, (flushQ L D).2.2) ∧ (flushQ L D).2.2.kept.length = D.kept.length ∧ DkOk (flushQ L D).2.2 ∧
    (((flushQ L D).1 = 0 ∧ (flushQ L D).2.1 = { L with durable := endQ L } ∧ Run (flushQ L D).2.2 { L with durable := endQ L } rs rs.length) ∨
     ((flushQ L D).1 = 8 ∧ AInv (flushQ L D).2.2 L.m.n L.m.base L.m.kept rs m none)) := by
  have hsl : L.stream.length = lenQ rs := by rw [h.str]; rfl
  have hend : endQ L = L.m.base + lenQ rs := by unfold endQ; rw [hsl]
  have hlt := len_take_le rs m
  have hdur := h.dur
  have hlen := h.len
  have hn2 := h.n2
  have htl : rs.take rs.length = rs := List.take_length
  have hck : L.m.check = 0 ∨ L.m.check ∈ startsQ L.m.base rs := h.chk.imp id fun x => by rw [starts_take] at x; exact List.mem_of_mem_take x
  have mk : ∀ {D' : Dk}, DkOk D' → D'.cache = [] → D'.kept.length = D.kept.length → V D' 0 = masterB L.m → (∀ i, i < L.m.n → V D' (1 + i) = secB (bytesQ rs) i) → Run D' { L with durable := endQ L } rs rs.length := fun a b c d e =>
    ⟨a, b, h.n1, by rw [c]; exact hn2, h.mas, h.wip, h.base, h.fin, h.right, h.str, h.sts, Nat.le_refl _, by rw [htl]; exact hend, by rw [htl]; exact hck, hlen, d, by rw [htl]; exact e⟩
  unfold flushQ
  by_cases hd : L.durable = endQ L
  · rw [if_pos hd]
    have e1 : { L with durable := endQ L } = L := by rw [← hd]
    have e2 : bytesQ (rs.take m) = bytesQ rs := by
      have := bytes_take rs m
      rw [show lenQ (rs.take m) = lenQ rs by omega] at this
      rw [← this]; exact List.take_length
    refine ⟨⟨.inl rfl, fun hn => ⟨rfl, hn⟩⟩, rfl, h.ok, .inl ⟨rfl, e1.symm, mk h.ok h.cache rfl h.v0 fun i hi => by rw [h.vi i hi, e2]⟩⟩
  rw [if_neg hd]
  have hf0 : firstQ L = lenQ (rs.take m) / 510 := by unfold firstQ; rw [hdur, Nat.add_sub_cancel_left]
  have hsc : secs L.stream = (lenQ rs + 509) / 510 := by unfold secs; rw [hsl]
  rw [hf0, hsc]
  obtain ⟨f0, hf⟩ : ∃ f0, f0 = lenQ (rs.take m) / 510 := ⟨_, rfl⟩
  obtain ⟨sc, hs⟩ : ∃ sc, sc = (lenQ rs + 509) / 510 := ⟨_, rfl⟩
  rw [← hf, ← hs]
  obtain ⟨k1, k2, k3⟩ := fl_ok L.stream (sc - f0) f0 h.ok (by rw [h.cache]; have := h.ok.few; simp only [List.length_nil]; unfold roomMax; omega)
  obtain ⟨w1, w2, w3, w4⟩ := fl_ran L.stream (sc - f0) f0 (D := D) (by omega)
  generalize flQ L.stream (sc - f0) f0 D = r1 at k1 k2 k3 w1 w2 w3 w4 ⊢
  have ain : AInv r1.2 L.m.n L.m.base L.m.kept rs m none := by
    have h0 := h.dead none
    refine ⟨fun s hx => ?_, fun i hi s hx => ?_⟩
    · rcases w3 0 s hx with h | h
      · exact h0.mas s h
      · omega
    · rcases w3 _ s hx with h | ⟨_, _, h⟩
      · exact h0.sec i hi s h
      · rw [Nat.add_sub_cancel_left] at h
        exact ⟨lenQ rs, hlt, Nat.le_refl _, by rw [h, ‹Run D L rs m›.str, List.take_of_length_le (show (bytesQ rs).length ≤ lenQ rs from Nat.le_refl _)]⟩
  by_cases hw : r1.1 = 0
  rotate_left
  · rw [if_pos hw]
    exact ⟨w1, k3, k1, .inr ⟨by rcases w1.err with h | h; exact absurd h hw; exact h.1, ain⟩⟩
  rw [if_neg (by omega)]
  have w4 := w4 hw
  obtain ⟨u1, u2⟩ := sync_sem r1.2
  obtain ⟨o1, _, o3⟩ := sync_ok k1
  by_cases hy : (syncQ r1.2).1 = 0
  rotate_left
  · rw [if_pos hy]
    exact ⟨w1.trans u1, o3.trans k3, o1, .inr ⟨by rcases u1.err with h | h; exact absurd h hy; exact h.1, ⟨fun s hx => ain.mas s (sync_cand hx), fun i hi s hx => ain.sec i hi s (sync_cand hx)⟩⟩⟩
  rw [if_neg (by omega)]
  refine ⟨⟨.inl rfl, fun hn => ⟨rfl, ((w1.trans u1).on hn).2⟩⟩, o3.trans k3, o1, .inl ⟨rfl, rfl, mk o1 ?_ (o3.trans k3) ?_ fun i hi => ?_⟩⟩
  · rcases u2 with ⟨_, _, h⟩ | ⟨h, _, _⟩
    · exact h
    · omega
  · rw [sync_view (by rw [k3]; omega), w4, if_neg (by omega)]; exact h.v0
  · rw [sync_view (by rw [k3]; omega), w4]
    by_cases hi2 : 1 + f0 ≤ 1 + i ∧ 1 + i < 1 + f0 + (sc - f0)
    · rw [if_pos hi2, Nat.add_sub_cancel_left, h.str]
    · rw [if_neg hi2, h.vi i hi]
      apply part_same
      rw [← bytes_take rs m, part_take']
      unfold partB
      by_cases hif : i < f0
      · rw [show min 510 (lenQ (rs.take m) - i * 510) = 510 by omega]
      · have hl0 : (bytesQ rs).drop (i * 510) = [] := List.drop_of_length_le (by show lenQ rs ≤ _; omega)
        rw [hl0]; simp
theorem mark_run {D : Dk} {L : Lg} {rs : List Recd} {m c : Nat} (h : Run D L rs m) (hc : ¬ (c ≠ 0 ∧ (c ∉ L.starts ∨ L.durable ≤ c))) : Pow D ((markQ L c D).1, (markQ L c D).2.2) ∧ (markQ L c D).2.2.kept.length = D.kept.length ∧ DkOk (markQ L c D).2.2 ∧
    (((markQ L c D).1 = 0 ∧ (markQ L c D).2.1 = { L with m := { L.m with check := c } } ∧ Run (markQ L c D).2.2 { L with m := { L.m with check := c } } rs m) ∨
     ((markQ L c D).1 = 8 ∧ AInv (markQ L c D).2.2 L.m.n L.m.base L.m.kept rs m none)) := by
  have hn2 := h.n2
  have hfin := h.fin'
  have hlast : lastLSN < 18446744073709551616 := by decide
  have hckc : c = 0 ∨ c ∈ startsQ L.m.base (rs.take m) := by
    by_cases h0 : c = 0
    · exact .inl h0
    · right
      have h1 : c ∈ L.starts := Decidable.byContradiction fun hx => hc ⟨h0, .inl hx⟩
      have h2 : c < L.durable := by
        rcases Nat.lt_or_ge c L.durable with hx | hx
        · exact hx
        · exact absurd ⟨h0, .inr hx⟩ hc
      rw [h.sts] at h1
      rw [h.dur] at h2
      obtain ⟨j, hj⟩ := List.mem_iff_getElem?.1 h1
      have hjl : j < rs.length := by rw [← starts_len L.m.base rs]; exact (List.getElem?_eq_some_iff.1 hj).1
      have := (starts_below L.m.base rs m j h.right h.few hjl c hj).1 h2
      rw [starts_take]
      exact List.mem_of_getElem? (i := j) (by rw [List.getElem?_take_of_lt this]; exact hj)
  have hcb : c < 18446744073709551616 := by
    rcases hckc with rfl | hx
    · decide
    · have := (starts_rise L.m.base (rs.take m) (h.right.take m)).2.1 c hx
      have := len_take_le rs m
      omega
  have mo : MasOk { L.m with check := c } := ⟨h.mas.n, h.mas.base, hcb, h.mas.kept⟩
  have hml := master_len { L.m with check := c }
  have ha := h.dead none
  have hwip := h.wip
  have hM : masterB { L.m with check := c } = masterB ⟨L.m.n, L.m.base, c, L.m.kept, false⟩ := by rw [← hwip]
  unfold markQ
  rw [if_neg hc]
  have e : stepsQ (markS L.m c) D = stepsQ [writeS { L.m with check := c }, syncS] D := rfl
  obtain ⟨o1, _, o3⟩ := steps_ok (l := markS L.m c) (fun s hs => by
      simp only [markS, List.mem_cons, List.not_mem_nil, or_false] at hs
      rcases hs with rfl | rfl
      · exact writeS_good _
      · exact syncS_good) h.ok (by rw [h.cache]; simp only [markS, sumK, writeS, syncS, List.length_nil]; decide)
  rw [e, steps_one, show (writeS { L.m with check := c }).q D = writeQ D ((0 : Nat) : Int) (masterB { L.m with check := c }) from rfl, steps_one] at o1 o3 ⊢
  obtain ⟨t1, t2, t3⟩ := write_sem (D := D) (a := 0) (by omega) hml
  have ain : AInv (writeQ D ((0 : Nat) : Int) (masterB { L.m with check := c })).2 L.m.n L.m.base L.m.kept rs m none := ⟨fun s hx => by
      rcases write_cand (by omega) hml hx with h | ⟨_, rfl⟩
      · exact ha.mas s h
      · exact .inl ⟨c, hckc, hM⟩, fun i hi s hx => by
      rcases write_cand (by omega) hml hx with h | ⟨h, _⟩
      · exact ha.sec i hi s h
      · omega⟩
  by_cases hx : (writeQ D ((0 : Nat) : Int) (masterB { L.m with check := c })).1 = 0
  rotate_left
  · have e1 : (if (writeQ D ((0 : Nat) : Int) (masterB { L.m with check := c })).1 ≠ 0 then writeQ D ((0 : Nat) : Int) (masterB { L.m with check := c }) else if (syncS.q (writeQ D ((0 : Nat) : Int) (masterB { L.m with check := c })).2).1 ≠ 0 then syncS.q (writeQ D ((0 : Nat) : Int) (masterB { L.m with check := c })).2 else stepsQ [] (syncS.q (writeQ D ((0 : Nat) : Int) (masterB { L.m with check := c })).2).2) = writeQ D ((0 : Nat) : Int) (masterB { L.m with check := c }) := if_pos hx
    rw [e1] at o1 o3 ⊢
    rw [if_pos hx]
    exact ⟨t1, o3, o1, .inr ⟨by rcases t1.err with h | h; exact absurd h hx; exact h.1, ain⟩⟩
  have v3 := write_view (D := D) (a := 0) (by omega) hml hx
  rw [if_neg (show ¬ (writeQ D ((0 : Nat) : Int) (masterB { L.m with check := c })).1 ≠ 0 by omega)] at o1 o3 ⊢
  rw [show syncS.q (writeQ D ((0 : Nat) : Int) (masterB { L.m with check := c })).2 = syncQ (writeQ D ((0 : Nat) : Int) (masterB { L.m with check := c })).2 from rfl] at o1 o3 ⊢
  generalize writeQ D ((0 : Nat) : Int) (masterB { L.m with check := c }) = r1 at t1 t2 t3 ain hx v3 o1 o3 ⊢
  obtain ⟨u1, u2⟩ := sync_sem r1.2
  by_cases hy : (syncQ r1.2).1 = 0
  rotate_left
  · have e1 : (if (syncQ r1.2).1 ≠ 0 then syncQ r1.2 else stepsQ [] (syncQ r1.2).2) = syncQ r1.2 := if_pos hy
    rw [e1] at o1 o3 ⊢
    rw [if_pos hy]
    exact ⟨t1.trans u1, o3, o1, .inr ⟨by rcases u1.err with h | h; exact absurd h hy; exact h.1, ⟨fun s hx => ain.mas s (sync_cand hx), fun i hi s hx => ain.sec i hi s (sync_cand hx)⟩⟩⟩
  rw [if_neg (show ¬ (syncQ r1.2).1 ≠ 0 by omega), steps_nil] at o1 o3 ⊢
  rw [if_neg (fun h => h rfl)]
  refine ⟨⟨.inl rfl, fun hn => ⟨rfl, ((t1.trans u1).on hn).2⟩⟩, o3, o1, .inl ⟨rfl, rfl, o1, ?_, h.n1, by rw [o3]; exact hn2, mo, h.wip, h.base, h.fin, h.right, h.str, h.sts, h.few, h.dur, hckc, h.len, ?_, fun i hi => ?_⟩⟩
  · rcases u2 with ⟨_, _, h⟩ | ⟨h, _, _⟩
    · exact h
    · omega
  · rw [sync_view (by rw [t2]; omega), v3, if_pos rfl]
  · have hi : i < L.m.n := hi
    rw [sync_view (by rw [t2]; omega), v3, if_neg (by omega)]; exact h.vi i hi
theorem reset_run {D : Dk} {L : Lg} {rs : List Recd} {m kept : Nat} (h : Run D L rs m) (hkp : kept < 4294967296) : Pow D ((resetQ L kept D).1, (resetQ L kept D).2.2) ∧ (resetQ L kept D).2.2.kept.length = D.kept.length ∧ DkOk (resetQ L kept D).2.2 ∧
    (((resetQ L kept D).1 = 0 ∧ (resetQ L kept D).2.1 = ⟨resetM L kept false, [], [], endQ L⟩ ∧ Run (resetQ L kept D).2.2 ⟨resetM L kept false, [], [], endQ L⟩ [] 0) ∨
     ((resetQ L kept D).1 = 8 ∧ Dead (resetQ L kept D).2.2 L.m.n L.m.base L.m.kept rs m (some kept))) := by
  have hn2 := h.n2
  have hfin := h.fin'
  have hlen := h.len
  have hlast : lastLSN < 18446744073709551616 := by decide
  have hsl : L.stream.length = lenQ rs := by rw [h.str]; rfl
  have hend : endQ L = L.m.base + lenQ rs := by unfold endQ; rw [hsl]
  have hlt := len_take_le rs m
  have hsc : secs L.stream = (lenQ rs + 509) / 510 := by unfold secs; rw [hsl]
  have hM : resetM L kept true = ⟨L.m.n, L.m.base + lenQ rs, 0, kept, true⟩ := by unfold resetM; rw [hend]
  have hM2 : resetM L kept false = ⟨L.m.n, L.m.base + lenQ rs, 0, kept, false⟩ := by unfold resetM; rw [hend]
  have mo : MasOk (resetM L kept false) := ⟨h.mas.n, by rw [hM2]; show L.m.base + lenQ rs < _; omega, by show (0 : Nat) < _; decide, hkp⟩
  have hml := master_len (resetM L kept true)
  have ha := h.dead (some kept)
  obtain ⟨o1, _, o3⟩ := steps_ok (l := resetS L kept) (fun s hs => by
      simp only [resetS, List.mem_cons, List.not_mem_nil, or_false] at hs
      rcases hs with rfl | rfl | rfl | rfl | rfl | rfl <;> first | exact writeS_good _ | exact syncS_good | exact wipeS_good _) h.ok (by rw [h.cache]; have := h.ok.few; simp only [resetS, sumK, wipeS, writeS, syncS, List.length_nil, hsc]; unfold roomMax; omega)
  have key : Pow D (stepsQ (resetS L kept) D) ∧ (((stepsQ (resetS L kept) D).1 = 0 ∧ (stepsQ (resetS L kept) D).2.cache = [] ∧ V (stepsQ (resetS L kept) D).2 0 = masterB (resetM L kept false) ∧ ∀ i, i < L.m.n → V (stepsQ (resetS L kept) D).2 (1 + i) = zs) ∨ ((stepsQ (resetS L kept) D).1 = 8 ∧ Dead (stepsQ (resetS L kept) D).2 L.m.n L.m.base L.m.kept rs m (some kept))) := by
    have e : stepsQ (resetS L kept) D = stepsQ (writeS (resetM L kept true) :: syncS :: [wipeS (secs L.stream), syncS, writeS (resetM L kept false), syncS]) D := rfl
    rw [e, steps_one, show (writeS (resetM L kept true)).q D = writeQ D ((0 : Nat) : Int) (masterB (resetM L kept true)) from rfl, steps_one]
    obtain ⟨t1, t2, t3⟩ := write_sem (D := D) (a := 0) (by omega) hml
    have ain : AInv (writeQ D ((0 : Nat) : Int) (masterB (resetM L kept true))).2 L.m.n L.m.base L.m.kept rs m (some kept) := ⟨fun s hx => by
        rcases write_cand (by omega) hml hx with h | ⟨_, rfl⟩
        · exact ha.mas s h
        · exact .inr ⟨kept, rfl, by rw [hM]⟩, fun i hi s hx => by
        rcases write_cand (by omega) hml hx with h | ⟨h, _⟩
        · exact ha.sec i hi s h
        · omega⟩
    by_cases hx : (writeQ D ((0 : Nat) : Int) (masterB (resetM L kept true))).1 = 0
    rotate_left
    · rw [if_pos hx]
      exact ⟨t1, .inr ⟨by rcases t1.err with h | h; exact absurd h hx; exact h.1, .inl ain⟩⟩
    have v3 := write_view (D := D) (a := 0) (by omega) hml hx
    rw [if_neg (by omega)]
    rw [show syncS.q (writeQ D ((0 : Nat) : Int) (masterB (resetM L kept true))).2 = syncQ (writeQ D ((0 : Nat) : Int) (masterB (resetM L kept true))).2 from rfl]
    generalize writeQ D ((0 : Nat) : Int) (masterB (resetM L kept true)) = r1 at t1 t2 t3 ain hx v3 ⊢
    obtain ⟨u1, u2⟩ := sync_sem r1.2
    by_cases hy : (syncQ r1.2).1 = 0
    rotate_left
    · rw [if_pos hy]
      exact ⟨t1.trans u1, .inr ⟨by rcases u1.err with h | h; exact absurd h hy; exact h.1, .inl ⟨fun s hx => ain.mas s (sync_cand hx), fun i hi s hx => ain.sec i hi s (sync_cand hx)⟩⟩⟩
    rw [if_neg (by omega)]
    have p2 := t1.trans u1
    obtain ⟨k2, c2⟩ : (syncQ r1.2).2.kept.length = D.kept.length ∧ (syncQ r1.2).2.cache = [] := by
      rcases u2 with ⟨_, h, h'⟩ | ⟨h, _, _⟩
      · exact ⟨by rw [h, setL_len, t2], h'⟩
      · omega
    have v2 : ∀ i, i < D.kept.length → V (syncQ r1.2).2 i = if 0 = i then masterB (resetM L kept true) else V D i := fun i hi => by rw [sync_view (by rw [t2]; exact hi), v3 i]
    generalize syncQ r1.2 = r2 at u1 u2 hy p2 k2 c2 v2 ⊢
    have hf := four_sem (D := r2.2) (n := L.m.n) (u := secs L.stream) (b := L.m.base + lenQ rs) (kp := kept) c2 (by omega) (by rw [hsc]; omega) (by rw [v2 0 (by omega), if_pos rfl, hM]) (fun i h1 h2 => by
      rw [v2 (1 + i) (by omega), if_neg (by omega), h.vi i h2]
      exact sec_zs (by show lenQ (rs.take m) ≤ _; rw [hsc] at h1; omega))
    rw [← hM2] at hf
    obtain ⟨f1, f2, f3⟩ := hf
    refine ⟨p2.trans f1, ?_⟩
    rcases f3 with h | ⟨h8, h9⟩
    · exact .inl h
    · exact .inr ⟨h8, .inr ⟨kept, rfl, h9⟩⟩
  obtain ⟨p1, p2⟩ := key
  unfold resetQ
  rcases p2 with ⟨e0, e1, e2, e3⟩ | ⟨e8, e9⟩
  · rw [if_neg (by omega)]
    refine ⟨⟨.inl rfl, fun hn => ⟨rfl, (p1.on hn).2⟩⟩, o3, o1, .inl ⟨rfl, rfl, o1, e1, h.n1, by rw [o3]; exact hn2, mo, rfl, by show 1 ≤ endQ L; have := h.base; omega, by show endQ L + 0 ≤ lastLSN; omega, (fun _ h => by cases h), rfl, rfl, Nat.le_refl _, rfl, .inl rfl, Nat.zero_le _, e2, fun i hi => ?_⟩⟩
    rw [e3 i hi]
    exact (sec_zs (Nat.zero_le _)).symm
  · rw [if_pos (by omega)]
    exact ⟨p1, o3, o1, .inr ⟨e8, e9⟩⟩
end Go.Proofs.YtmcdaegaopfihaaGreat.Wl
