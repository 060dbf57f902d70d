/-
  Texts joined: Sx Sq. Conditions: each theorem's own.
-/
import Derived.Test.YtmcdaegaopfihaaGreatY38
import Derived.Test.YtmcdaegaopfihaaGreatY35
section
namespace Go.Proofs.YtmcdaegaopfihaaGreat.Wl
open Go Go.K Go.Proofs Go.Proofs.YtmcdaegaopfihaaGreat Go.Proofs.YtmcdaegaopfihaaGreat.Cc
set_option linter.unusedVariables false
set_option linter.unusedSimpArgs false
set_option maxRecDepth 10000

theorem used_sec (l : List UInt8) (i : Nat) : usedQ (secB l i) = (partB l i).length := by
 have h := part_le l i
 unfold usedQ secB padS
 rw [List.append_assoc, List.take_append_of_le_length (by rw [lebs_length]; omega), List.take_of_length_le (by rw [lebs_length]; omega)]
 exact leNum_lebs 2 _ (by omega)
theorem read_sec (l : List UInt8) (i : Nat) : ((secB l i).drop 2).take (usedQ (secB l i)) = partB l i := by
 rw [used_sec]
 unfold secB padS
 rw [List.append_assoc, List.drop_append_of_le_length (by rw [lebs_length]; omega), List.drop_of_length_le (by rw [lebs_length]; omega), List.nil_append, List.take_left]
theorem sec_zs {l : List UInt8} {i : Nat} (h : l.length ≤ i * 510) : secB l i = zs := by
 have : partB l i = [] := by unfold partB; rw [List.drop_of_length_le h]; rfl
 unfold secB
 rw [this]
 decide
theorem part_same {l l' : List UInt8} {i : Nat} (h : partB l i = partB l' i) : secB l i = secB l' i := by unfold secB; rw [h]
def SecOk (S : List UInt8) (lo i : Nat) (s : Sec) : Prop := ∃ t, lo ≤ t ∧ t ≤ S.length ∧ s = secB (S.take t) i
theorem part_take' (S : List UInt8) (t i : Nat) : partB (S.take t) i = (S.drop (i * 510)).take (min 510 (t - i * 510)) := by
 unfold partB
 rw [List.drop_take, List.take_take]
theorem take_part (S : List UInt8) {t i : Nat} (h : i * 510 ≤ t) : S.take (i * 510) ++ partB (S.take t) i = S.take (min t ((i + 1) * 510)) := by
 rw [part_take']
 rw [show min t ((i + 1) * 510) = i * 510 + min 510 (t - i * 510) by omega, List.take_add]
theorem ra_sem {S : List UInt8} {lo n : Nat} (hS : S.length ≤ n * 510) (hlo : lo ≤ S.length) : ∀ (k i : Nat) (l : List Sec) (st : List UInt8) (en : Bool) (D : Dk), i + k = n → l.length = i → n < D.kept.length → (∀ j, i ≤ j → j < n → SecOk S lo j (V D (1 + j))) →
    ((en = false ∧ st = S.take (i * 510) ∧ i * 510 ≤ S.length) ∨ (en = true ∧ ∃ t, lo ≤ t ∧ t ≤ S.length ∧ st = S.take t)) →
    (raQ k i l st en D).2.kept = D.kept ∧ (raQ k i l st en D).2.cache = D.cache ∧
    ((∃ l' t, (raQ k i l st en D).1 = .ok (l', S.take t) ∧ lo ≤ t ∧ t ≤ S.length ∧ l'.length = n ∧ (∀ j, j < i → l'[j]? = l[j]?) ∧ (∀ j, i ≤ j → j < n → l'[j]? = some (V D (1 + j))) ∧ (NoTrip D → NoTrip (raQ k i l st en D).2)) ∨
     ((raQ k i l st en D).1 = .error 8 ∧ (raQ k i l st en D).2.dark = true ∧ ¬ NoTrip D))
  | 0, i, l, st, en, D, hk, hl, hn, hs, hst => by
    rw [raQ]
    refine ⟨rfl, rfl, .inl ?_⟩
    rcases hst with ⟨_, h1, h2⟩ | ⟨_, t, h1, h2, h3⟩
    · refine ⟨l, S.length, ?_, hlo, Nat.le_refl _, by omega, fun j _ => rfl, fun j h1 h2 => by omega, id⟩
      rw [h1, List.take_of_length_le (by omega), List.take_length]
    · exact ⟨l, t, by rw [h3], h1, h2, by omega, fun j _ => rfl, fun j h1 h2 => by omega, id⟩
  | k + 1, i, l, st, en, D, hk, hl, hn, hs, hst => by
    obtain ⟨r1, r2, r3⟩ := read_sem (D := D) (a := 1 + i) (by omega)
    rw [raQ]
    cases hq : readQ D ((1 + i : Nat) : Int) with
    | mk x D1 =>
      rw [hq] at r1 r2 r3
      dsimp only at r1 r2 r3
      rcases r3 with ⟨rfl, r3⟩ | ⟨rfl, r3, r4⟩
      · dsimp only
        obtain ⟨t, t1, t2, t3⟩ := hs i (Nat.le_refl _) (by omega)
        have hu : usedQ (V D (1 + i)) = (partB (S.take t) i).length := by rw [t3, used_sec]
        have hrd : ((V D (1 + i)).drop 2).take (usedQ (V D (1 + i))) = partB (S.take t) i := by rw [t3, read_sec]
        have hpl := part_le (S.take t) i
        rw [if_neg (by omega), hrd, hu]
        have hlen : (partB (S.take t) i).length = min 510 (t - i * 510) := by
          rw [part_take', List.length_take, List.length_drop]; omega
        have hst' : ((en || decide ((partB (S.take t) i).length < 510)) = false ∧ (if en = true then st else st ++ partB (S.take t) i) = S.take ((i + 1) * 510) ∧ (i + 1) * 510 ≤ S.length) ∨ ((en || decide ((partB (S.take t) i).length < 510)) = true ∧ ∃ t', lo ≤ t' ∧ t' ≤ S.length ∧ (if en = true then st else st ++ partB (S.take t) i) = S.take t') := by
          rcases hst with ⟨h0, h1, h2⟩ | ⟨h0, h1⟩
          · rw [h0, if_neg (by decide), h1, Bool.false_or]
            by_cases hf : (partB (S.take t) i).length < 510
            · refine .inr ⟨decide_eq_true hf, ?_⟩
              by_cases ht : i * 510 ≤ t
              · exact ⟨min t ((i + 1) * 510), by omega, by omega, take_part S ht⟩
              · have h3 : partB (S.take t) i = [] := List.eq_nil_of_length_eq_zero (by omega)
                exact ⟨i * 510, by omega, h2, by rw [h3, List.append_nil]⟩
            · refine .inl ⟨decide_eq_false hf, ?_, by omega⟩
              rw [take_part S (by omega)]
              congr 1; omega
          · rw [h0, if_pos rfl]
            exact .inr ⟨rfl, h1⟩
        obtain ⟨a1, a2, a3⟩ := ra_sem hS hlo k (i + 1) (l ++ [V D (1 + i)]) _ _ D1 (by omega) (by rw [List.length_append, List.length_singleton]; omega) (by rw [r1]; exact hn) (fun j h1 h2 => by rw [V.of r1 r2]; exact hs j (by omega) h2) hst'
        refine ⟨a1.trans r1, a2.trans r2, ?_⟩
        rcases a3 with ⟨l', t', b1, b2, b3, b4, b5, b6, b7⟩ | ⟨b1, b2, b3⟩
        · refine .inl ⟨l', t', b1, b2, b3, b4, fun j hj => ?_, fun j h1 h2 => ?_, fun hn => b7 (r3 hn)⟩
          · rw [b5 j (by omega), List.getElem?_append_left (by omega)]
          · by_cases hji : j = i
            · subst hji
              rw [b5 j (by omega), List.getElem?_append_right (by omega), hl, Nat.sub_self]; rfl
            · rw [b6 j (by omega) h2, V.of r1 r2]
        · exact .inr ⟨b1, b2, fun hn => b3 (r3 hn)⟩
      · exact ⟨r1, r2, .inr ⟨rfl, r3, r4⟩⟩
theorem mend_sem (P : List UInt8) : ∀ (old : List Sec) (i : Nat) (D : Dk), 1 + i + old.length ≤ D.kept.length → (∀ (j : Nat) s, old[j]? = some s → V D (1 + i + j) = s) →
  Pow D (mendQ P old i D) ∧ (mendQ P old i D).2.kept.length = D.kept.length ∧ (∀ j s, Cand (mendQ P old i D).2 j s → Cand D j s ∨ (1 + i ≤ j ∧ j < 1 + i + old.length ∧ s = secB P (j - 1))) ∧
  ((mendQ P old i D).1 = 0 → (mendQ P old i D).2.cache = [] ∧ ∀ j, j < D.kept.length → V (mendQ P old i D).2 j = if 1 + i ≤ j ∧ j < 1 + i + old.length then secB P (j - 1) else V D j)
 | [], i, D, hl, ho => by
  rw [mendQ]
  by_cases hc : 0 < D.cache.length
  ·rw [if_pos hc]
   obtain ⟨a, b⟩ := sync_sem D
   refine ⟨a, ?_, fun j s h => .inl (sync_cand h), fun e => ⟨?_, fun j hj => ?_⟩⟩
   ·rcases b with ⟨_, h, _⟩ | ⟨_, h, _⟩
    ·rw [h, setL_len]
    ·rw [h]
   ·rcases b with ⟨_, _, h⟩ | ⟨h, _, _⟩
    ·exact h
    ·omega
   ·rw [sync_view hj, if_neg (by rw [List.length_nil]; omega)]
  ·rw [if_neg hc]
   refine ⟨⟨.inl rfl, fun h => ⟨rfl, h⟩⟩, rfl, fun j s h => .inl h, fun _ => ⟨List.eq_nil_of_length_eq_zero (by show D.cache.length = 0; omega), fun j hj => ?_⟩⟩
   rw [if_neg (by rw [List.length_nil]; omega)]
 | o :: r, i, D, hl, ho => by
  rw [List.length_cons] at hl ⊢
  have h0 := ho 0 o rfl
  rw [Nat.add_zero] at h0
  rw [mendQ]
  by_cases he : secB P i = o
  ·rw [if_pos he]
   obtain ⟨a, b, c, d⟩ := mend_sem P r (i + 1) D (by omega) (fun j s h => by rw [show 1 + (i + 1) + j = 1 + i + (j + 1) by omega]; exact ho (j + 1) s h)
   refine ⟨a, b, fun j s h => ?_, fun e => ⟨(d e).1, fun j hj => ?_⟩⟩
   ·rcases c j s h with h | ⟨x, y, z⟩
    ·exact .inl h
    ·exact .inr ⟨by omega, by omega, z⟩
   ·rw [(d e).2 j hj]
    by_cases h1 : 1 + (i + 1) ≤ j ∧ j < 1 + (i + 1) + r.length
    ·rw [if_pos h1, if_pos (by omega)]
    ·rw [if_neg h1]
     by_cases h2 : 1 + i ≤ j ∧ j < 1 + i + (r.length + 1)
     ·obtain rfl : j = 1 + i := by omega
      rw [if_pos h2, h0, ← he, Nat.add_sub_cancel_left]
     ·rw [if_neg h2]
  ·rw [if_neg he]
   have hi : 1 + i < D.kept.length := by omega
   obtain ⟨hp, hk, hc⟩ := write_sem hi (sec_len P i)
   by_cases hw : (writeQ D ((1 + i : Nat) : Int) (secB P i)).1 = 0
   ·rw [if_neg (by omega)]
    have hv := write_view hi (sec_len P i) hw
    obtain ⟨a, b, c, d⟩ := mend_sem P r (i + 1) (writeQ D ((1 + i : Nat) : Int) (secB P i)).2 (by rw [hk]; omega) (fun j s h => by
     rw [hv, if_neg (by omega), show 1 + (i + 1) + j = 1 + i + (j + 1) by omega]; exact ho (j + 1) s h)
    refine ⟨hp.trans a, b.trans (by rw [hk]), fun j s h => ?_, fun e => ⟨(d e).1, fun j hj => ?_⟩⟩
    ·rcases c j s h with h | ⟨x, y, z⟩
     ·rcases write_cand hi (sec_len P i) h with h | ⟨rfl, rfl⟩
      ·exact .inl h
      ·exact .inr ⟨Nat.le_refl _, by omega, by rw [Nat.add_sub_cancel_left]⟩
     ·exact .inr ⟨by omega, by omega, z⟩
    ·rw [(d e).2 j (by rw [hk]; exact hj)]
     by_cases h1 : 1 + (i + 1) ≤ j ∧ j < 1 + (i + 1) + r.length
     ·rw [if_pos h1, if_pos (by omega)]
     ·rw [if_neg h1, hv]
      by_cases h2 : 1 + i = j
      ·subst h2; rw [if_pos rfl, if_pos (by omega), Nat.add_sub_cancel_left]
      ·rw [if_neg h2, if_neg (by omega)]
   ·rw [if_pos hw]
    refine ⟨hp, by rw [hk], fun j s h => ?_, fun e => absurd e hw⟩
    rcases write_cand hi (sec_len P i) h with h | ⟨rfl, rfl⟩
    ·exact .inl h
    ·exact .inr ⟨Nat.le_refl _, by omega, by rw [Nat.add_sub_cancel_left]⟩
theorem seg {a x y : List UInt8} {k m : Nat} (hk : a.length = k) (hm : x.length = m) : ((a ++ (x ++ y)).drop k).take m = x := by
 subst hk hm
 rw [List.drop_left, List.take_left]
theorem rd_master {m : Mas} (hm : MasOk m) : (masterB m).take 8 = magic ∧ rdMas (masterB m) = m := by
 obtain ⟨n, base, check, kept, wiped⟩ := m
 have h1 := hm.n
 have h2 := hm.base
 have h3 := hm.check
 have h4 := hm.kept
 dsimp only at h1 h2 h3 h4
 have hmg : magic.length = 8 := rfl
 obtain ⟨tl, htl, ht1⟩ : ∃ tl, masterB ⟨n, base, check, kept, wiped⟩ = magic ++ (lebs n 4 ++ (lebs base 8 ++ (lebs check 8 ++ (lebs kept 4 ++ tl)))) ∧ decide (leNum (tl.take 1) = 1) = wiped := by
  unfold masterB padS headB
  cases wiped with
  | true => exact ⟨lebs 1 1 ++ List.replicate (512 - (magic ++ lebs n 4 ++ lebs base 8 ++ lebs check 8 ++ lebs kept 4 ++ lebs 1 1).length) 0, by simp only [if_true, List.append_assoc], by rw [List.take_append_of_le_length (by rw [lebs_length]; omega)]; decide⟩
  | false =>
   refine ⟨List.replicate 480 0, ?_, by decide⟩
   simp only [Bool.false_eq_true, if_false, List.append_nil, List.append_assoc, List.length_append, lebs_length, hmg]
 refine ⟨by rw [htl]; exact List.take_left' hmg, ?_⟩
 unfold rdMas
 have e1 : ((masterB ⟨n, base, check, kept, wiped⟩).drop 8).take 4 = lebs n 4 := by rw [htl]; exact seg hmg (lebs_length ..)
 have e2 : ((masterB ⟨n, base, check, kept, wiped⟩).drop 12).take 8 = lebs base 8 := by
  rw [htl, ← List.append_assoc]; exact seg (by rw [List.length_append, lebs_length]; rfl) (lebs_length ..)
 have e3 : ((masterB ⟨n, base, check, kept, wiped⟩).drop 20).take 8 = lebs check 8 := by
  rw [htl, ← List.append_assoc, ← List.append_assoc]; exact seg (by simp only [List.length_append, lebs_length]; rfl) (lebs_length ..)
 have e4 : ((masterB ⟨n, base, check, kept, wiped⟩).drop 28).take 4 = lebs kept 4 := by
  rw [htl, ← List.append_assoc, ← List.append_assoc, ← List.append_assoc]; exact seg (by simp only [List.length_append, lebs_length]; rfl) (lebs_length ..)
 have e5 : (masterB ⟨n, base, check, kept, wiped⟩).drop 32 = tl := by
  rw [htl, ← List.append_assoc, ← List.append_assoc, ← List.append_assoc, ← List.append_assoc]; exact List.drop_left' (by simp only [List.length_append, lebs_length]; rfl)
 rw [e1, e2, e3, e4, e5, ht1, leNum_lebs 4 _ (by omega), leNum_lebs 8 _ (by omega), leNum_lebs 8 _ (by omega), leNum_lebs 4 _ (by omega)]
theorem mast_sem {m : Mas} {k : Nat} (hm : MasOk m) (h1 : 16 ≤ m.n) (h2 : m.n < k) (h3 : 1 ≤ m.base) (h4 : m.base ≤ lastLSN) : mastQ k (masterB m) = .ok m := by
 obtain ⟨e1, e2⟩ := rd_master hm
 unfold mastQ
 rw [e1, e2, if_neg (by rintro (h | h | h | h | h | h) <;> first | exact h rfl | omega)]
theorem rm_sem {D : Dk} {m : Mas} (hv : V D 0 = masterB m) (hm : MasOk m) (h1 : 16 ≤ m.n) (h2 : m.n < D.kept.length) (h3 : 1 ≤ m.base) (h4 : m.base ≤ lastLSN) :
  (rmQ D).2.kept = D.kept ∧ (rmQ D).2.cache = D.cache ∧ (((rmQ D).1 = .ok m ∧ (NoTrip D → NoTrip (rmQ D).2)) ∨ ((rmQ D).1 = .error 8 ∧ (rmQ D).2.dark = true ∧ ¬ NoTrip D)) := by
 obtain ⟨r1, r2, r3⟩ := read_sem (D := D) (a := 0) (by omega)
 unfold rmQ
 cases hq : readQ D 0 with
 | mk x D1 =>
  rw [show readQ D ((0 : Nat) : Int) = (x, D1) from hq] at r1 r2 r3
  dsimp only at r1 r2 r3
  rcases r3 with ⟨rfl, r3⟩ | ⟨rfl, r3, r4⟩
  ·dsimp only
   rw [hv, mast_sem hm h1 h2 h3 h4]
   exact ⟨r1, r2, .inl ⟨rfl, r3⟩⟩
  ·exact ⟨r1, r2, .inr ⟨rfl, r3, r4⟩⟩
end Go.Proofs.YtmcdaegaopfihaaGreat.Wl
end

section
namespace Go.Proofs.YtmcdaegaopfihaaGreat.Wl
open Go Go.K Go.Proofs Go.Proofs.YtmcdaegaopfihaaGreat Go.Proofs.YtmcdaegaopfihaaGreat.Cc
set_option linter.unusedVariables false
set_option linter.unusedSimpArgs false
set_option maxRecDepth 10000

def secs (l : List UInt8) : Nat := (l.length + 509) / 510
def firstQ (L : Lg) : Nat := (L.durable - L.m.base) / 510
def flushQ (L : Lg) (D : Dk) : Int × Lg × Dk :=
 if L.durable = endQ L then (0, L, D) else
 if (flQ L.stream (secs L.stream - firstQ L) (firstQ L) D).1 ≠ 0 then ((flQ L.stream (secs L.stream - firstQ L) (firstQ L) D).1, L, (flQ L.stream (secs L.stream - firstQ L) (firstQ L) D).2) else
 if (syncQ (flQ L.stream (secs L.stream - firstQ L) (firstQ L) D).2).1 ≠ 0 then ((syncQ (flQ L.stream (secs L.stream - firstQ L) (firstQ L) D).2).1, L, (syncQ (flQ L.stream (secs L.stream - firstQ L) (firstQ L) D).2).2) else
 (0, { L with durable := endQ L }, (syncQ (flQ L.stream (secs L.stream - firstQ L) (firstQ L) D).2).2)
set_option maxHeartbeats 4000000 in
theorem Flush (h : Base) (p d : Nat) (W : LM) (L : Lg) (M : DM) (D : Dk) (ho : LgOk L) (hs : StrOk h W L.stream) (hk : DkOk D) (hr : D.cache.length + 20000 ≤ roomMax) :
  Tr Tryz.prog 9 [pv p] h (lgA p d W L ++ dkA d M D) (fun u h' H' => u = .int .i64 (flushQ L D).1 ∧ ∃ M', H' = lgA p d W (flushQ L D).2.1 ++ dkA d M' (flushQ L D).2.2) := by
 have hno := LNone h p d W L
 have hen := LEnd h p d W L ho hs
 have hmn := ho.mas.n
 have hdu := ho.dur
 have hba := ho.base
 have hsl := ho.str
 unfold lastLSN at hba
 obtain ⟨so, sc, hsv⟩ := hs.len
 obtain ⟨sv, sA, ar, kr⟩ := W
 dsimp only at hsv
 subst hsv
 obtain ⟨f0, hf0⟩ : ∃ f0, f0 = firstQ L := ⟨_, rfl⟩
 obtain ⟨en, hen2⟩ : ∃ en, en = endQ L := ⟨_, rfl⟩
 have hen3 : en = L.m.base + L.stream.length := hen2
 have hf1 : f0 = (L.durable - L.m.base) / 510 := hf0
 have hsec : secs L.stream = (L.stream.length + 509) / 510 := rfl
 refine K.enter Tryz.func9 rfl (Nat.le_of_ble_eq_true rfl) (fun F => ?_)
 (repeat' first | refine X.rq ?_ | refine X.rc ?_ ?_ <;> intro hc <;> try omega)
 refine K.l_callV (Fx.cal rfl) rfl hno (K.pp [0, 0, 0] rfl) rfl rfl ?_
 (repeat' first | refine X.rq ?_ | refine X.rc ?_ ?_ <;> intro hc <;> try omega)
 refine X.draw ([blk p 34 (lgV d ⟨.slice so L.stream.length sc, sA, ar, kr⟩ L)]) [] (.pu 0 (.pu 1 (.pu 2 (.pu 4 (.st 3 (.on 5 (.pu 6 .nil))))))) ?_ (hQ := by repeat (first | with_reducible refine K.NoPanic.then ?_ | with_reducible refine K.NoPanic.inBlock ?_ | with_reducible exact K.post_noPanic _ _ | exact K.post_noPanic _ _ | exact K.QN_noPanic | exact K.postS_noPanic | exact K.postX_noPanic | exact K.RPX_noPanic))
 refine K.d_pu rfl (fun _ _ => X.mv) rfl ?_
 refine K.d_pu rfl (fun _ _ => X.nc) rfl ?_
 refine K.d_pu rfl (fun _ _ => X.fa) rfl ?_
 refine K.d_pu rfl (fun _ _ => X.mv) rfl ?_
 refine K.d_st rfl X.ld rfl ?_
 refine K.d_on rfl (fun KK hKK => ?_)
 refine K.l_callV (Fx.cal rfl) rfl hen (K.pp [0, 0, 0] rfl) rfl rfl ?_
 rw [← hen2]
 refine K.l_nil ?_
 refine X.onE hKK ?_
 refine K.d_pu rfl (fun _ _ => X.beql) rfl ?_
 refine K.d_nil ?_
 unfold flushQ
 rw [← hen2, ← hf0]
 by_cases hd : L.durable = en
 ·rw [if_pos hd]
  (repeat' first | refine X.rq ?_ | refine X.rc ?_ ?_ <;> intro hc <;> try omega)
  all_goals try (exfalso; omega)
  exact K.done (vs := [.int .i64 0]) (by first | exact Or.inl rfl | exact Or.inr rfl) rfl (K.Base.le.refl _) (H' := [_, _, _, _, _, _]) rfl ⟨rfl, M, rfl⟩
 ·rw [if_neg hd]
  (repeat' first | refine X.rq ?_ | refine X.rc ?_ ?_ <;> intro hc <;> try omega)
  all_goals try (exfalso; omega)
  refine X.draw ([blk p 34 (lgV d ⟨.slice so L.stream.length sc, sA, ar, kr⟩ L)]) [] (.pu 0 (.pu 1 (.pu 2 (.pu 4 (.pu 5 (.pu 6 (.pu 7 (.st 3 (.st 8 (.pu 9 (.pu 10 (.pu 11 (.pu 12 .nil))))))))))))) ?_ (hQ := by repeat (first | with_reducible refine K.NoPanic.then ?_ | with_reducible refine K.NoPanic.inBlock ?_ | with_reducible exact K.post_noPanic _ _ | exact K.post_noPanic _ _ | exact K.QN_noPanic | exact K.postS_noPanic | exact K.postX_noPanic | exact K.RPX_noPanic))
  refine K.d_pu rfl (fun _ _ => X.mv) rfl ?_
  refine K.d_pu rfl (fun _ _ => X.nc) rfl ?_
  refine K.d_pu rfl (fun _ _ => X.fa) rfl ?_
  refine K.d_pu rfl (fun _ _ => X.mv) rfl ?_
  refine K.d_pu rfl (fun _ _ => X.nc) rfl ?_
  refine K.d_pu rfl (fun _ _ => X.fa) rfl ?_
  refine K.d_pu rfl (fun _ _ => X.fa) rfl ?_
  refine K.d_st rfl X.ld rfl ?_
  refine K.d_st rfl X.ld rfl ?_
  refine K.d_pu rfl (fun _ _ => X.bsub) rfl ?_
  refine K.d_pu rfl (fun _ _ => X.cv) rfl ?_
  refine K.d_pu rfl (fun _ _ => X.bquo) rfl ?_
  refine K.d_pu rfl (fun _ _ => X.sg) rfl ?_
  refine K.d_nil ?_
  rw [show ((L.durable : Int) - (L.m.base : Int)) / 510 = (f0 : Int) by omega]
  (repeat' first | refine X.rq ?_ | refine X.rc ?_ ?_ <;> intro hc <;> try omega)
  refine K.c_loop (σ := SpS) (fun q => [(0, pv p), (4, .int .i64 q.j)]) (fun q => q.hb) (fun q => (lgA p d ⟨.slice so L.stream.length sc, sA, ar, kr⟩ L ++ dkA d q.M q.D) ++ F)
   (fun q => q.j ≤ secs L.stream ∧ h.le q.hb ∧ DkOk q.D ∧ q.D.cache.length + (secs L.stream - q.j) + 1000 ≤ roomMax ∧ flQ L.stream (secs L.stream - f0) f0 D = flQ L.stream (secs L.stream - q.j) q.j q.D) (fun q => secs L.stream - q.j) ⟨f0, h, M, D⟩ ⟨by dsimp only; omega, K.Base.le.refl _, hk, by dsimp only; omega, rfl⟩ (by repeat (first | exact K.Sub.nil _ | refine K.Sub.cons rfl ?_)) rfl rfl ?_
  rintro ⟨j, hb, M1, D1⟩ ⟨hj, hle, hk1, hr1, hq⟩ KL hKL
  dsimp only at hj hle hk1 hr1 hq ⊢
  have hs1 := hs.le hle
  rw [hq]
  by_cases hjl : j < secs L.stream
  ·obtain ⟨r, hre⟩ : ∃ r, secs L.stream - j = r + 1 := ⟨secs L.stream - j - 1, by omega⟩
   rw [hre, flQ] at hq ⊢
   obtain ⟨a1, a2, a3⟩ := write_ok hk1 (by omega) (1 + j : Nat) (secB L.stream j)
   unfold lgA lgV
   simp only [List.cons_append, List.nil_append]
   (repeat' first | refine X.rq ?_ | refine X.rc ?_ ?_ <;> intro hc <;> try omega)
   all_goals try (exfalso; omega)
   refine X.draw ([blk p 34 [dv d, .int .i64 L.m.n, n64 L.m.base, n64 L.m.check, .int .u32 L.m.kept, .bool L.m.wiped, .slice so L.stream.length sc, bufV ar L.starts.length kr, n64 L.durable]]) [] (.pu 0 (.pu 1 (.pu 2 (.pu 4 (.pu 5 (.pu 6 (.pu 7 (.st 3 (.on 8 (.on 9 (.pu 10 .nil))))))))))) ?_ (hQ := by repeat (first | with_reducible refine K.NoPanic.then ?_ | with_reducible refine K.NoPanic.inBlock ?_ | with_reducible exact K.post_noPanic _ _ | exact K.post_noPanic _ _ | exact K.QN_noPanic | exact K.postS_noPanic | exact K.postX_noPanic | exact K.RPX_noPanic))
   refine K.d_pu rfl (fun _ _ => X.mv) rfl ?_
   refine K.d_pu rfl (fun _ _ => X.nc) rfl ?_
   refine K.d_pu rfl (fun _ _ => X.fa) rfl ?_
   refine K.d_pu rfl (fun _ _ => X.mv) rfl ?_
   refine K.d_pu rfl (fun _ _ => X.badd) rfl ?_
   refine K.d_pu rfl (fun _ _ => X.mv) rfl ?_
   refine K.d_pu rfl (fun _ _ => X.mv) rfl ?_
   refine K.d_st rfl X.ld rfl ?_
   refine K.d_on rfl (fun KK hKK => ?_)
   refine K.l_call (Fx.cal rfl) rfl (Sector hb p d ⟨.slice so L.stream.length sc, sA, ar, kr⟩ L j (by omega) (by omega) hs1) (K.pp [0, 0, 0] rfl) rfl ?_
   rintro u h2 H' le2 ⟨rfl, asx, csx, rfl, hbs⟩
   refine K.l_nil ?_
   refine X.onE hKK ?_
   refine K.d_on rfl (fun KK hKK => ?_)
   rw [show (1 : Int) + (j : Int) = ((1 + j : Nat) : Int) by omega]
   refine K.l_call (Fx.cal rfl) rfl (Write h2 d M1 D1 ((1 + j : Nat) : Int) _ (secB L.stream j) hk1 (by omega) (by omega) hbs (by rw [sec_len]; omega)) (K.pp [3, 3, 3] rfl) rfl ?_
   rintro u h3 H' le3 ⟨rfl, ac, cap, c, rfl⟩
   have le9 := le2.trans le3
   refine K.l_nil ?_
   refine X.onE hKK ?_
   refine K.d_pu rfl (fun _ _ => X.sg) rfl ?_
   refine K.d_nil ?_
   have hle3 := hle.trans (le2.trans le3)
   by_cases hw : (writeQ D1 ((1 + j : Nat) : Int) (secB L.stream j)).1 = 0
   ·rw [if_neg (by omega)] at hq
    rw [hw]
    (repeat' first | refine X.rq ?_ | refine X.rc ?_ ?_ <;> intro hc <;> try omega)
    all_goals try (exfalso; omega)
    refine K.AT.perm (K.pp [3, 3, 3] rfl) ?_
    refine K.a_round hKL ⟨j + 1, h3, { M1 with ac := ac, cap := cap, c2 := c }, (writeQ D1 ((1 + j : Nat) : Int) (secB L.stream j)).2⟩ ⟨by dsimp only; omega, hle3, a1, by dsimp only; omega, by dsimp only; rw [show secs L.stream - (j + 1) = r by omega]; exact hq⟩ (by repeat (first | exact K.Sub.nil _ | refine K.Sub.cons rfl ?_)) rfl rfl (by dsimp only; omega)
   ·rw [if_pos hw, if_pos hw]
    (repeat' first | refine X.rq ?_ | refine X.rc ?_ ?_ <;> intro hc <;> try omega)
    all_goals try (exfalso; omega)
    refine K.AT.perm (K.pp [3, 3, 3] rfl) ?_
    exact K.done (vs := [.int .i64 _]) (by first | exact Or.inl rfl | exact Or.inr rfl) rfl hle3 (H' := [_, _, _, _, _, _]) rfl ⟨rfl, { M1 with ac := ac, cap := cap, c2 := c }, rfl⟩
  ·obtain rfl : j = secs L.stream := by omega
   rw [Nat.sub_self, flQ, if_neg (fun h => h rfl)]
   unfold lgA lgV
   simp only [List.cons_append, List.nil_append]
   (repeat' first | refine X.rq ?_ | refine X.rc ?_ ?_ <;> intro hc <;> try omega)
   all_goals try (exfalso; omega)
   refine K.l_call (Fx.cal rfl) rfl (Sync hb d M1 D1 hk1) (K.pp [3, 3, 3] rfl) rfl ?_
   rintro u h3 H' le3 ⟨rfl, c, rfl⟩
   have hle3 := hle.trans le3
   by_cases hy : (syncQ D1).1 = 0
   ·rw [if_neg (by omega), hy]
    (repeat' first | refine X.rq ?_ | refine X.rc ?_ ?_ <;> intro hc <;> try omega)
    all_goals try (exfalso; omega)
    refine K.l_callV (Fx.cal rfl) rfl (LEnd h3 p d ⟨.slice so L.stream.length sc, sA, ar, kr⟩ L ho (hs.le hle3)) (K.pp [3, 3, 3] rfl) rfl rfl ?_
    rw [← hen2]
    unfold lgA lgV
    simp only [List.cons_append, List.nil_append]
    (repeat' first | refine X.rq ?_ | refine X.rc ?_ ?_ <;> intro hc <;> try omega)
    refine X.sto ?_
    simp only [Go.K.nmz]
    (repeat' first | refine X.rq ?_ | refine X.rc ?_ ?_ <;> intro hc <;> try omega)
    exact K.done (vs := [.int .i64 0]) (by first | exact Or.inl rfl | exact Or.inr rfl) rfl hle3 (H' := [_, _, _, _, _, _]) rfl ⟨rfl, { M1 with c3 := c }, rfl⟩
   ·rw [if_pos hy]
    (repeat' first | refine X.rq ?_ | refine X.rc ?_ ?_ <;> intro hc <;> try omega)
    all_goals try (exfalso; omega)
    refine K.AT.perm (K.pp [3, 3, 3] rfl) ?_
    exact K.done (vs := [.int .i64 _]) (by first | exact Or.inl rfl | exact Or.inr rfl) rfl hle3 (H' := [_, _, _, _, _, _]) rfl ⟨rfl, { M1 with c3 := c }, rfl⟩
end Go.Proofs.YtmcdaegaopfihaaGreat.Wl
end
