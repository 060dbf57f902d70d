/-
  Texts joined: Sx Oe. Conditions: each theorem's own.
-/
import Derived.Test.YtijbhgiigddjdaaGreatPC23
import Derived.Test.YtijbhgiigddjdaaGreatPC26
import Derived.Test.YtijbhgiigddjdaaGreatPC27
set_option linter.unusedVariables false
set_option linter.unusedSimpArgs false
set_option maxRecDepth 10000
set_option maxHeartbeats 16000000
section
namespace Go.Proofs.YtijbhgiigddjdaaGreat.Wl
open Go.K Cc

theorem used_sec (l : List UInt8) (i : Nat) : usedQ (secB l i) = (partB l i).length := by
 have h := part_le l i
 unfold usedQ secB padS
 rw [List.append_assoc, List.take_append_of_le_length (by rw [lebs_length]; omega), List.take_of_length_le (by rw [lebs_length]; omega)]
 exact leNum_lebs 2 _ (by omega)
theorem read_sec (l : List UInt8) (i : Nat) : ((secB l i).drop 2).take (usedQ (secB l i)) = partB l i := by
 rw [used_sec]
 unfold secB padS
 rw [List.append_assoc, List.drop_append_of_le_length (by rw [lebs_length]; omega), List.drop_of_length_le (by rw [lebs_length]; omega), List.nil_append, List.take_left]
theorem sec_zs {l : List UInt8} {i : Nat} (h : l.length ≤ i * 510) : secB l i = zs := by
 have : partB l i = [] := by unfold partB; rw [List.drop_of_length_le h]; rfl
 unfold secB
 rw [this]
 decide
theorem part_same {l l' : List UInt8} {i : Nat} (h : partB l i = partB l' i) : secB l i = secB l' i := by unfold secB; rw [h]
def SecOk (S : List UInt8) (lo i : Nat) (s : Sec) : Prop := ∃ t, lo ≤ t ∧ t ≤ S.length ∧ s = secB (S.take t) i
theorem part_take' (S : List UInt8) (t i : Nat) : partB (S.take t) i = (S.drop (i * 510)).take (min 510 (t - i * 510)) := by
 unfold partB
 rw [List.drop_take, List.take_take]
theorem take_part (S : List UInt8) {t i : Nat} (h : i * 510 ≤ t) : S.take (i * 510) ++ partB (S.take t) i = S.take (min t ((i + 1) * 510)) := by
 rw [part_take']
 rw [show min t ((i + 1) * 510) = i * 510 + min 510 (t - i * 510) by omega, List.take_add]
theorem ra_sem {S : List UInt8} {lo n : Nat} (hS : S.length ≤ n * 510) (hlo : lo ≤ S.length) : ∀ (k i : Nat) (l : List Sec) (st : List UInt8) (en : Bool) (D : Dk), i + k = n → l.length = i → n < D.kept.length → (∀ j, i ≤ j → j < n → SecOk S lo j (V D (1 + j))) →
    ((en = false ∧ st = S.take (i * 510) ∧ i * 510 ≤ S.length) ∨ (en = true ∧ ∃ t, lo ≤ t ∧ t ≤ S.length ∧ st = S.take t)) →
    (raQ k i l st en D).2.kept = D.kept ∧ (raQ k i l st en D).2.cache = D.cache ∧
    ((∃ l' t, (raQ k i l st en D).1 = .ok (l', S.take t) ∧ lo ≤ t ∧ t ≤ S.length ∧ l'.length = n ∧ (∀ j, j < i → l'[j]? = l[j]?) ∧ (∀ j, i ≤ j → j < n → l'[j]? = some (V D (1 + j))) ∧ (NoTrip D → NoTrip (raQ k i l st en D).2)) ∨
     ((raQ k i l st en D).1 = .error 8 ∧ (raQ k i l st en D).2.dark = true ∧ ¬ NoTrip D))
  | 0, i, l, st, en, D, hk, hl, hn, hs, hst => by
    rw [raQ]
    refine ⟨rfl, rfl, .inl ?_⟩
    rcases hst with ⟨_, h1, h2⟩ | ⟨_, t, h1, h2, h3⟩
    · refine ⟨l, S.length, ?_, hlo, Nat.le_refl _, by omega, fun j _ => rfl, fun j h1 h2 => by omega, id⟩
      rw [h1, List.take_of_length_le (by omega), List.take_length]
    · exact ⟨l, t, by rw [h3], h1, h2, by omega, fun j _ => rfl, fun j h1 h2 => by omega, id⟩
  | k + 1, i, l, st, en, D, hk, hl, hn, hs, hst => by
    obtain ⟨r1, r2, r3⟩ := read_sem (D := D) (a := 1 + i) (by omega)
    rw [raQ]
    cases hq : readQ D ((1 + i : Nat) : Int) with
    | mk x D1 =>
      rw [hq] at r1 r2 r3
      dsimp only at r1 r2 r3
      rcases r3 with ⟨rfl, r3⟩ | ⟨rfl, r3, r4⟩
      · dsimp only
        obtain ⟨t, t1, t2, t3⟩ := hs i (Nat.le_refl _) (by omega)
        have hu : usedQ (V D (1 + i)) = (partB (S.take t) i).length := by rw [t3, used_sec]
        have hrd : ((V D (1 + i)).drop 2).take (usedQ (V D (1 + i))) = partB (S.take t) i := by rw [t3, read_sec]
        have hpl := part_le (S.take t) i
        rw [if_neg (by omega), hrd, hu]
        have hlen : (partB (S.take t) i).length = min 510 (t - i * 510) := by
          rw [part_take', List.length_take, List.length_drop]; omega
        have hst' : ((en || decide ((partB (S.take t) i).length < 510)) = false ∧ (if en = true then st else st ++ partB (S.take t) i) = S.take ((i + 1) * 510) ∧ (i + 1) * 510 ≤ S.length) ∨ ((en || decide ((partB (S.take t) i).length < 510)) = true ∧ ∃ t', lo ≤ t' ∧ t' ≤ S.length ∧ (if en = true then st else st ++ partB (S.take t) i) = S.take t') := by
          rcases hst with ⟨h0, h1, h2⟩ | ⟨h0, h1⟩
          · rw [h0, if_neg (by decide), h1, Bool.false_or]
            by_cases hf : (partB (S.take t) i).length < 510
            · refine .inr ⟨decide_eq_true hf, ?_⟩
              by_cases ht : i * 510 ≤ t
              · exact ⟨min t ((i + 1) * 510), by omega, by omega, take_part S ht⟩
              · have h3 : partB (S.take t) i = [] := List.eq_nil_of_length_eq_zero (by omega)
                exact ⟨i * 510, by omega, h2, by rw [h3, List.append_nil]⟩
            · refine .inl ⟨decide_eq_false hf, ?_, by omega⟩
              rw [take_part S (by omega)]
              congr 1; omega
          · rw [h0, if_pos rfl]
            exact .inr ⟨rfl, h1⟩
        obtain ⟨a1, a2, a3⟩ := ra_sem hS hlo k (i + 1) (l ++ [V D (1 + i)]) _ _ D1 (by omega) (by rw [List.length_append, List.length_singleton]; omega) (by rw [r1]; exact hn) (fun j h1 h2 => by rw [V.of r1 r2]; exact hs j (by omega) h2) hst'
        refine ⟨a1.trans r1, a2.trans r2, ?_⟩
        rcases a3 with ⟨l', t', b1, b2, b3, b4, b5, b6, b7⟩ | ⟨b1, b2, b3⟩
        · refine .inl ⟨l', t', b1, b2, b3, b4, fun j hj => ?_, fun j h1 h2 => ?_, fun hn => b7 (r3 hn)⟩
          · rw [b5 j (by omega), List.getElem?_append_left (by omega)]
          · by_cases hji : j = i
            · subst hji
              rw [b5 j (by omega), List.getElem?_append_right (by omega), hl, Nat.sub_self]; rfl
            · rw [b6 j (by omega) h2, V.of r1 r2]
        · exact .inr ⟨b1, b2, fun hn => b3 (r3 hn)⟩
      · exact ⟨r1, r2, .inr ⟨rfl, r3, r4⟩⟩
theorem mend_sem (P : List UInt8) : ∀ (old : List Sec) (i : Nat) (D : Dk), 1 + i + old.length ≤ D.kept.length → (∀ (j : Nat) s, old[j]? = some s → V D (1 + i + j) = s) →
  Pow D (mendQ P old i D) ∧ (mendQ P old i D).2.kept.length = D.kept.length ∧ (∀ j s, Cand (mendQ P old i D).2 j s → Cand D j s ∨ (1 + i ≤ j ∧ j < 1 + i + old.length ∧ s = secB P (j - 1))) ∧
  ((mendQ P old i D).1 = 0 → (mendQ P old i D).2.cache = [] ∧ ∀ j, j < D.kept.length → V (mendQ P old i D).2 j = if 1 + i ≤ j ∧ j < 1 + i + old.length then secB P (j - 1) else V D j)
 | [], i, D, hl, ho => by
  rw [mendQ]
  by_cases hc : 0 < D.cache.length
  ·rw [if_pos hc]
   obtain ⟨a, b⟩ := sync_sem D
   refine ⟨a, ?_, fun j s h => .inl (sync_cand h), fun e => ⟨?_, fun j hj => ?_⟩⟩
   ·rcases b with ⟨_, h, _⟩ | ⟨_, h, _⟩
    ·rw [h, setL_len]
    ·rw [h]
   ·rcases b with ⟨_, _, h⟩ | ⟨h, _, _⟩
    ·exact h
    ·omega
   ·rw [sync_view hj, if_neg (by rw [List.length_nil]; omega)]
  ·rw [if_neg hc]
   refine ⟨⟨.inl rfl, fun h => ⟨rfl, h⟩⟩, rfl, fun j s h => .inl h, fun _ => ⟨List.eq_nil_of_length_eq_zero (by show D.cache.length = 0; omega), fun j hj => ?_⟩⟩
   rw [if_neg (by rw [List.length_nil]; omega)]
 | o :: r, i, D, hl, ho => by
  rw [List.length_cons] at hl ⊢
  have h0 := ho 0 o rfl
  rw [Nat.add_zero] at h0
  rw [mendQ]
  by_cases he : secB P i = o
  ·rw [if_pos he]
   obtain ⟨a, b, c, d⟩ := mend_sem P r (i + 1) D (by omega) (fun j s h => by rw [show 1 + (i + 1) + j = 1 + i + (j + 1) by omega]; exact ho (j + 1) s h)
   refine ⟨a, b, fun j s h => ?_, fun e => ⟨(d e).1, fun j hj => ?_⟩⟩
   ·rcases c j s h with h | ⟨x, y, z⟩
    ·exact .inl h
    ·exact .inr ⟨by omega, by omega, z⟩
   ·rw [(d e).2 j hj]
    by_cases h1 : 1 + (i + 1) ≤ j ∧ j < 1 + (i + 1) + r.length
    ·rw [if_pos h1, if_pos (by omega)]
    ·rw [if_neg h1]
     by_cases h2 : 1 + i ≤ j ∧ j < 1 + i + (r.length + 1)
     ·obtain rfl : j = 1 + i := by omega
      rw [if_pos h2, h0, ← he, Nat.add_sub_cancel_left]
     ·rw [if_neg h2]
  ·rw [if_neg he]
   have hi : 1 + i < D.kept.length := by omega
   obtain ⟨hp, hk, hc⟩ := write_sem hi (sec_len P i)
   by_cases hw : (writeQ D ((1 + i : Nat) : Int) (secB P i)).1 = 0
   ·rw [if_neg (by omega)]
    have hv := write_view hi (sec_len P i) hw
    obtain ⟨a, b, c, d⟩ := mend_sem P r (i + 1) (writeQ D ((1 + i : Nat) : Int) (secB P i)).2 (by rw [hk]; omega) (fun j s h => by
     rw [hv, if_neg (by omega), show 1 + (i + 1) + j = 1 + i + (j + 1) by omega]; exact ho (j + 1) s h)
    refine ⟨hp.trans a, b.trans (by rw [hk]), fun j s h => ?_, fun e => ⟨(d e).1, fun j hj => ?_⟩⟩
    ·rcases c j s h with h | ⟨x, y, z⟩
     ·rcases write_cand hi (sec_len P i) h with h | ⟨rfl, rfl⟩
      ·exact .inl h
      ·exact .inr ⟨Nat.le_refl _, by omega, by rw [Nat.add_sub_cancel_left]⟩
     ·exact .inr ⟨by omega, by omega, z⟩
    ·rw [(d e).2 j (by rw [hk]; exact hj)]
     by_cases h1 : 1 + (i + 1) ≤ j ∧ j < 1 + (i + 1) + r.length
     ·rw [if_pos h1, if_pos (by omega)]
     ·rw [if_neg h1, hv]
      by_cases h2 : 1 + i = j
      ·subst h2; rw [if_pos rfl, if_pos (by omega), Nat.add_sub_cancel_left]
      ·rw [if_neg h2, if_neg (by omega)]
   ·rw [if_pos hw]
    refine ⟨hp, by rw [hk], fun j s h => ?_, fun e => absurd e hw⟩
    rcases write_cand hi (sec_len P i) h with h | ⟨rfl, rfl⟩
    ·exact .inl h
    ·exact .inr ⟨Nat.le_refl _, by omega, by rw [Nat.add_sub_cancel_left]⟩
theorem seg {a x y : List UInt8} {k m : Nat} (hk : a.length = k) (hm : x.length = m) : ((a ++ (x ++ y)).drop k).take m = x := by
 subst hk hm
 rw [List.drop_left, List.take_left]
theorem rd_master {m : Mas} (hm : MasOk m) : (masterB m).take 8 = magic ∧ rdMas (masterB m) = m := by
 obtain ⟨n, base, check, kept, wiped⟩ := m
 have h1 := hm.n
 have h2 := hm.base
 have h3 := hm.check
 have h4 := hm.kept
 dsimp only at h1 h2 h3 h4
 have hmg : magic.length = 8 := rfl
 obtain ⟨tl, htl, ht1⟩ : ∃ tl, masterB ⟨n, base, check, kept, wiped⟩ = magic ++ (lebs n 4 ++ (lebs base 8 ++ (lebs check 8 ++ (lebs kept 4 ++ tl)))) ∧ decide (leNum (tl.take 1) = 1) = wiped := by
  unfold masterB padS headB
  cases wiped with
  | true => exact ⟨lebs 1 1 ++ List.replicate (512 - (magic ++ lebs n 4 ++ lebs base 8 ++ lebs check 8 ++ lebs kept 4 ++ lebs 1 1).length) 0, by simp only [if_true, List.append_assoc], by rw [List.take_append_of_le_length (by rw [lebs_length]; omega)]; decide⟩
  | false =>
   refine ⟨List.replicate 480 0, ?_, by decide⟩
   simp only [Bool.false_eq_true, if_false, List.append_nil, List.append_assoc, List.length_append, lebs_length, hmg]
 refine ⟨by rw [htl]; exact List.take_left' hmg, ?_⟩
 unfold rdMas
 have e1 : ((masterB ⟨n, base, check, kept, wiped⟩).drop 8).take 4 = lebs n 4 := by rw [htl]; exact seg hmg (lebs_length ..)
 have e2 : ((masterB ⟨n, base, check, kept, wiped⟩).drop 12).take 8 = lebs base 8 := by
  rw [htl, ← List.append_assoc]; exact seg (by rw [List.length_append, lebs_length]; rfl) (lebs_length ..)
 have e3 : ((masterB ⟨n, base, check, kept, wiped⟩).drop 20).take 8 = lebs check 8 := by
  rw [htl, ← List.append_assoc, ← List.append_assoc]; exact seg (by simp only [List.length_append, lebs_length]; rfl) (lebs_length ..)
 have e4 : ((masterB ⟨n, base, check, kept, wiped⟩).drop 28).take 4 = lebs kept 4 := by
  rw [htl, ← List.append_assoc, ← List.append_assoc, ← List.append_assoc]; exact seg (by simp only [List.length_append, lebs_length]; rfl) (lebs_length ..)
 have e5 : (masterB ⟨n, base, check, kept, wiped⟩).drop 32 = tl := by
  rw [htl, ← List.append_assoc, ← List.append_assoc, ← List.append_assoc, ← List.append_assoc]; exact List.drop_left' (by simp only [List.length_append, lebs_length]; rfl)
 rw [e1, e2, e3, e4, e5, ht1, leNum_lebs 4 _ (by omega), leNum_lebs 8 _ (by omega), leNum_lebs 8 _ (by omega), leNum_lebs 4 _ (by omega)]
theorem mast_sem {m : Mas} {k : Nat} (hm : MasOk m) (h1 : 16 ≤ m.n) (h2 : m.n < k) (h3 : 1 ≤ m.base) (h4 : m.base ≤ lastLSN) : mastQ k (masterB m) = .ok m := by
 obtain ⟨e1, e2⟩ := rd_master hm
 unfold mastQ
 rw [e1, e2, if_neg (by rintro (h | h | h | h | h | h) <;> first | exact h rfl | omega)]
theorem rm_sem {D : Dk} {m : Mas} (hv : V D 0 = masterB m) (hm : MasOk m) (h1 : 16 ≤ m.n) (h2 : m.n < D.kept.length) (h3 : 1 ≤ m.base) (h4 : m.base ≤ lastLSN) :
  (rmQ D).2.kept = D.kept ∧ (rmQ D).2.cache = D.cache ∧ (((rmQ D).1 = .ok m ∧ (NoTrip D → NoTrip (rmQ D).2)) ∨ ((rmQ D).1 = .error 8 ∧ (rmQ D).2.dark = true ∧ ¬ NoTrip D)) := by
 obtain ⟨r1, r2, r3⟩ := read_sem (D := D) (a := 0) (by omega)
 unfold rmQ
 cases hq : readQ D 0 with
 | mk x D1 =>
  rw [show readQ D ((0 : Nat) : Int) = (x, D1) from hq] at r1 r2 r3
  dsimp only at r1 r2 r3
  rcases r3 with ⟨rfl, r3⟩ | ⟨rfl, r3, r4⟩
  ·dsimp only
   rw [hv, mast_sem hm h1 h2 h3 h4]
   exact ⟨r1, r2, .inl ⟨rfl, r3⟩⟩
  ·exact ⟨r1, r2, .inr ⟨rfl, r3, r4⟩⟩
end Go.Proofs.YtijbhgiigddjdaaGreat.Wl
end

section
namespace Go.Proofs.YtijbhgiigddjdaaGreat.Pl
open Go.K Pg Wl

theorem nodup_inj {α : Type} {l : List α} (hn : l.Nodup) {i j : Nat} {a : α} (hi : l[i]? = some a) (hj : l[j]? = some a) : i = j := by
 obtain ⟨h1, e1⟩ := List.getElem?_eq_some_iff.1 hi
 obtain ⟨h2, e2⟩ := List.getElem?_eq_some_iff.1 hj
 have hp := List.pairwise_iff_getElem.1 hn
 rcases Nat.lt_trichotomy i j with h | h | h
 ·exact (hp i j h1 h2 h (e1.trans e2.symm)).elim
 ·exact h
 ·exact (hp j i h2 h1 h (e2.trans e1.symm)).elim
theorem nodup_of {α : Type} {l : List α} (h : ∀ (i j : Nat) a, l[i]? = some a → l[j]? = some a → i = j) : l.Nodup :=
 List.pairwise_iff_getElem.2 fun i j hi hj hij e => by
  have := h i j l[i] (List.getElem?_eq_getElem hi) (by rw [e]; exact List.getElem?_eq_getElem hj)
  omega
theorem emptyOk {b n : Nat} (h : n < 4294967296) : FrOk (emptyF b n) := ⟨h, wfZ, (fun c hc => by cases hc), rfl, .inr rfl⟩
theorem clr_n {frs frs' : List Fr} (h : frs'.map clr = frs.map clr) : frs'.map (·.n) = frs.map (·.n) := by
 have h1 : ∀ l : List Fr, l.map (·.n) = (l.map clr).map (·.n) := fun l => by rw [List.map_map]; rfl
 rw [h1 frs', h1 frs, h]
theorem clr_mem {frs frs' : List Fr} (h : frs'.map clr = frs.map clr) {x : Fr} (hx : x ∈ frs') : ∃ y ∈ frs, clr y = clr x := by
 have : clr x ∈ frs.map clr := by rw [← h]; exact List.mem_map_of_mem hx
 obtain ⟨y, hy, e⟩ := List.mem_map.1 this
 exact ⟨y, hy, e⟩
theorem n_of_clr {x y : Fr} (h : clr y = clr x) : y.n = x.n ∧ y.b = x.b ∧ y.pg = x.pg ∧ y.fresh = x.fresh := by
 obtain ⟨b, n, pg, cb, cap, l, fr, us⟩ := x
 obtain ⟨b', n', pg', cb', cap', l', fr', us'⟩ := y
 unfold clr at h
 cases h
 exact ⟨rfl, rfl, rfl, rfl⟩
theorem PoOk.clrs {P : Po} (hP : PoOk P) {frs : List Fr} (h : frs.map clr = P.frs.map clr) {hd : Nat} (hh : hd < P.most) : PoOk (failP P frs hd) := by
 refine ⟨hP.most, by show frs.length ≤ _; rw [clr_len h]; exact hP.len, hh, clr_ok h hP.fr, by show (frs.map _).Nodup; rw [clr_n h]; exact hP.nd, hP.wk, fun x hx => ?_, fun a ha => hP.wn a fun y hy => ?_, hP.dk⟩
 ·obtain ⟨y, hy, e⟩ := clr_mem h hx
  obtain ⟨e1, e2, _⟩ := n_of_clr e
  have := hP.wh y hy
  rw [e1] at this
  rw [show (failP P frs hd).wl = P.wl from rfl, this]
  unfold frP
  rw [e2]
 ·obtain ⟨x, hx, e⟩ := clr_mem h.symm hy
  rw [← (n_of_clr e).1]
  exact ha x hx
theorem PoOk.setF {P : Po} (hP : PoOk P) {i : Nat} {x y : Fr} (hx : P.frs[i]? = some x) (hn : y.n = x.n) (hb : y.b = x.b) (hy : FrOk y) : PoOk { P with frs := P.frs.set i y } := by
 have hil := (List.getElem?_eq_some_iff.1 hx).1
 have hm : ∀ z ∈ P.frs.set i y, z = y ∨ z ∈ P.frs := fun z hz => (List.mem_or_eq_of_mem_set hz).symm
 have hxm := List.mem_of_getElem? hx
 refine ⟨hP.most, by show (P.frs.set i y).length ≤ _; rw [List.length_set]; exact hP.len, hP.hand, fun z hz => ?_, ?_, hP.wk, fun z hz => ?_, fun a ha => hP.wn a fun z hz => ?_, hP.dk⟩
 ·rcases hm z hz with rfl | h
  ·exact hy
  ·exact hP.fr z h
 ·show ((P.frs.set i y).map _).Nodup
  rw [List.map_set]
  have : (P.frs.map (·.n)).set i y.n = P.frs.map (·.n) := List.ext_getElem? fun j => by
   rw [List.getElem?_set]
   split
   ·rename_i hij
    subst hij
    rw [List.getElem?_map, hx, List.length_map, if_pos hil, hn]; rfl
   ·rfl
  rw [this]
  exact hP.nd
 ·rcases hm z hz with rfl | h
  ·have := hP.wh x hxm
   rw [show ({ P with frs := P.frs.set i z } : Po).wl = P.wl from rfl, hn, this]
   unfold frP
   rw [hb]
  ·exact hP.wh z h
 ·obtain ⟨j, hj⟩ := List.mem_iff_getElem?.1 hz
  by_cases hij : i = j
  ·subst hij
   rw [hx] at hj
   cases hj
   rw [← hn]
   exact ha y (List.mem_iff_getElem?.2 ⟨i, by rw [List.getElem?_set_self hil]⟩)
  ·exact ha z (List.mem_iff_getElem?.2 ⟨j, by rw [List.getElem?_set_ne hij]; exact hj⟩)
theorem PoOk.add {P : Po} (hP : PoOk P) {b n : Nat} (hlt : P.frs.length < P.most) (hn : n < 4294967296) (hno : ∀ x ∈ P.frs, x.n ≠ n) : PoOk (addP P b n) := by
 refine ⟨hP.most, by show (P.frs ++ [emptyF b n]).length ≤ P.most; rw [List.length_append]; show P.frs.length + 1 ≤ _; omega, hP.hand, fun z hz => ?_, ?_, hP.wk.put _ _, fun z hz => ?_, fun a ha => ?_, hP.dk⟩
 ·rcases List.mem_append.1 hz with h | h
  ·exact hP.fr z h
  ·rw [List.mem_singleton.1 h]; exact emptyOk hn
 ·show ((P.frs ++ [emptyF b n]).map _).Nodup
  rw [List.map_append, List.nodup_append]
  refine ⟨hP.nd, by simp, fun m hm k hk => ?_⟩
  obtain ⟨x, hx, rfl⟩ := List.mem_map.1 hm
  rw [List.mem_singleton.1 hk]
  exact hno x hx
 ·show K.look (putM P.wl P.wc n (pv b)) z.n = _
  rw [look_put]
  rcases List.mem_append.1 hz with h | h
  ·rw [if_neg (by have := hno z h; omega)]; exact hP.wh z h
  ·rw [List.mem_singleton.1 h]; exact if_pos rfl
 ·show K.look (putM P.wl P.wc n (pv b)) a = _
  rw [look_put, if_neg (fun h => ha (emptyF b n) (List.mem_append.2 (.inr (List.mem_singleton.2 rfl))) (by show n = a; omega))]
  exact hP.wn a fun x hx => ha x (List.mem_append.2 (.inl hx))
theorem PoOk.swap {P : Po} (hP : PoOk P) {frs : List Fr} (h : frs.map clr = P.frs.map clr) {hd n : Nat} {x : Fr} (hx : frs[hd]? = some x) (hn : n < 4294967296) (hno : ∀ x ∈ P.frs, x.n ≠ n) : PoOk (swapP P frs hd x n) := by
 have hil := (List.getElem?_eq_some_iff.1 hx).1
 have hl := clr_len h
 have hlen := hP.len
 have hQ := hP.clrs h (hd := hd) (by omega)
 have hnoQ : ∀ x ∈ frs, x.n ≠ n := fun z hz => by
  obtain ⟨y, hy, e⟩ := clr_mem h hz
  rw [← (n_of_clr e).1]
  exact hno y hy
 have hxm := List.mem_of_getElem? hx
 have hnd : (frs.map (·.n)).Nodup := hQ.nd
 have hone : ∀ z ∈ frs.set hd (emptyF x.b n), z = emptyF x.b n ∨ (z ∈ frs ∧ z.n ≠ x.n) := fun z hz => by
  obtain ⟨j, hj⟩ := List.mem_iff_getElem?.1 hz
  by_cases hij : hd = j
  ·subst hij
   rw [List.getElem?_set_self hil] at hj
   cases hj
   exact .inl rfl
  ·rw [List.getElem?_set_ne hij] at hj
   refine .inr ⟨List.mem_of_getElem? hj, fun e => hij ?_⟩
   have h1 : (frs.map (·.n))[hd]? = some x.n := by rw [List.getElem?_map, hx]; rfl
   have h2 : (frs.map (·.n))[j]? = some x.n := by rw [List.getElem?_map, hj, ← e]; rfl
   exact nodup_inj hnd h1 h2
 refine ⟨hP.most, by show (frs.set hd (emptyF x.b n)).length ≤ P.most; rw [List.length_set]; omega, Nat.mod_lt _ (by have := hP.most; show 0 < P.most; omega), fun z hz => ?_, ?_, (hP.wk.del _).put _ _, fun z hz => ?_, fun a ha => ?_, hP.dk⟩
 ·rcases hone z hz with rfl | h
  ·exact emptyOk hn
  ·exact hQ.fr z h.1
 ·show ((frs.set hd (emptyF x.b n)).map _).Nodup
  rw [List.map_set]
  have hno2 : ∀ k, (frs.map (·.n))[k]? ≠ some n := fun k hk => by
   rw [List.getElem?_map] at hk
   cases hz : frs[k]? with
   | none => rw [hz] at hk; cases hk
   | some z => rw [hz] at hk; simp only [Option.map_some, Option.some.injEq] at hk; exact hnoQ z (List.mem_of_getElem? hz) hk
  refine nodup_of fun i j a hi hj => ?_
  rw [List.getElem?_set] at hi hj
  by_cases h1 : hd = i
  ·rw [if_pos h1, if_pos (by rw [List.length_map]; omega)] at hi
   by_cases h2 : hd = j
   ·omega
   ·rw [if_neg h2] at hj
    cases hi
    exact absurd hj (hno2 j)
  ·rw [if_neg h1] at hi
   by_cases h2 : hd = j
   ·rw [if_pos h2, if_pos (by rw [List.length_map]; omega)] at hj
    cases hj
    exact absurd hi (hno2 i)
   ·rw [if_neg h2] at hj
    exact nodup_inj hnd hi hj
 ·show K.look (putM (delM P.wl x.n) P.wc n (pv x.b)) z.n = _
  rw [look_put, look_del]
  rcases hone z hz with rfl | ⟨h1, h2⟩
  ·exact if_pos rfl
  ·rw [if_neg (by have := hnoQ z h1; omega), if_neg (by omega)]
   exact hQ.wh z h1
 ·show K.look (putM (delM P.wl x.n) P.wc n (pv x.b)) a = _
  have hself : emptyF x.b n ∈ frs.set hd (emptyF x.b n) := List.mem_iff_getElem?.2 ⟨hd, List.getElem?_set_self hil⟩
  rw [look_put, look_del, if_neg (fun h => ha _ hself (by show n = a; omega))]
  by_cases hax : (a : Int) = x.n
  ·rw [if_pos hax]
  ·rw [if_neg hax]
   refine hQ.wn a fun z hz => ?_
   obtain ⟨j, hj⟩ := List.mem_iff_getElem?.1 hz
   have hj : frs[j]? = some z := hj
   by_cases hij : hd = j
   ·subst hij
    rw [hx] at hj
    cases hj
    omega
   ·exact ha z (List.mem_iff_getElem?.2 ⟨j, by show (frs.set hd _)[j]? = _; rw [List.getElem?_set_ne hij]; exact hj⟩)
/-! ### What a Get does -/
def setP (P : Po) (i : Nat) (y : Fr) : Po := { P with frs := P.frs.set i y }
def secP (L : Lg) (n : Nat) : Int := ((L.m.n + n : Nat) : Int)
def hasQ (L : Lg) (D : Dk) (n : Nat) : Prop := 1 ≤ n ∧ (n : Int) ≤ pagesQ L D
def pageQ (b : List UInt8) : Pag × Int := if b = zs then (⟨0, 0, 0, []⟩, 0) else decQ b
inductive RoomR (L : Lg) (D : Dk) (P : Po) (n : Nat) : Option (Nat × Nat) → Int → Po → Lg → Dk → Prop
 | add (b : Nat) : P.frs.length < P.most → RoomR L D P n (some (b, P.frs.length)) 0 (addP P b n) L D
 | swap (frs : List Fr) (hd : Nat) (x : Fr) : P.frs.length = P.most → frs.map clr = P.frs.map clr → frs[hd]? = some x → (wrQ x L D).e = 0 → RoomR L D P n (some (x.b, hd)) 0 (swapP P frs hd x n) (wrQ x L D).L (wrQ x L D).D
 | fail (frs : List Fr) (hd : Nat) (x : Fr) : P.frs.length = P.most → frs.map clr = P.frs.map clr → frs[hd]? = some x → (wrQ x L D).e ≠ 0 → RoomR L D P n none (wrQ x L D).e (failP P frs hd) (wrQ x L D).L (wrQ x L D).D
theorem RoomPost.rel {q d l : Nat} {W : LM} {L : Lg} {MD : DM} {D : Dk} {M : PM} {P : Po} {n : Nat} {u : Value} {H' : List Asrt} (h : RoomPost q d l W L MD D M P n u H') : ∃ r e P' L' D' MD' M', RoomR L D P n r e P' L' D' ∧ (P.frs.length < P.most → MD' = MD) ∧ H' = poA q d l W L' MD' D' M' P' ∧ u = .tuple #[match r with | some (b, _) => pv b | none => .pointer none, .int .i64 e] := by
 rcases h with ⟨h1, b, fa, fk, rfl, rfl⟩ | ⟨h1, frs, hd, x, MD', h2, h3, ⟨h4, rfl, rfl⟩ | ⟨h4, rfl, rfl⟩⟩
 ·exact ⟨_, _, _, _, _, _, _, .add b h1, fun _ => rfl, rfl, rfl⟩
 ·exact ⟨_, _, _, _, _, _, _, .swap frs hd x h1 h2 h3 h4, fun h => by omega, rfl, rfl⟩
 ·exact ⟨_, _, _, _, _, _, _, .fail frs hd x h1 h2 h3 h4, fun h => by omega, rfl, rfl⟩
theorem clr_lt {frs : List Fr} {P : Po} (hP : PoOk P) {hd : Nat} {x : Fr} (h2 : frs.map clr = P.frs.map clr) (h3 : frs[hd]? = some x) : hd < P.most := by
 have := (List.getElem?_eq_some_iff.1 h3).1
 rw [clr_len h2] at this
 have := hP.len
 omega
theorem RoomR.ok {L L' : Lg} {D D' : Dk} {P P' : Po} {n : Nat} {r : Option (Nat × Nat)} {e : Int} (h : RoomR L D P n r e P' L' D') (hP : PoOk P) (hn : n < 4294967296) (hno : ∀ x ∈ P.frs, x.n ≠ n) :
  PoOk P' ∧ P'.dl = P.dl ∧ P'.dc = P.dc ∧ P'.most = P.most ∧ (r = none → e ≠ 0) ∧ (∀ b i, r = some (b, i) → e = 0 ∧ P'.frs[i]? = some (emptyF b n)) := by
 cases h with
 | add b h1 => exact ⟨hP.add h1 hn hno, rfl, rfl, rfl, (fun h => by cases h), fun b' i e => by cases e; exact ⟨rfl, by simp [addP]⟩⟩
 | swap frs hd x h1 h2 h3 h4 => exact ⟨hP.swap h2 h3 hn hno, rfl, rfl, rfl, (fun h => by cases h), fun b' i e => by cases e; exact ⟨rfl, List.getElem?_set_self (List.getElem?_eq_some_iff.1 h3).1⟩⟩
 | fail frs hd x h1 h2 h3 h4 => exact ⟨hP.clrs h2 (clr_lt hP h2 h3), rfl, rfl, rfl, fun _ => h4, fun b i e => by cases e⟩
theorem wr_ok {x : Fr} {L : Lg} {D : Dk} (hL : LgOk L) (hk : DkOk D) (hr : D.cache.length + 20000 ≤ roomMax) :
  DkOk (wrQ x L D).D ∧ (wrQ x L D).D.kept.length = D.kept.length ∧ (wrQ x L D).D.cache.length ≤ D.cache.length + 9001 ∧ ((wrQ x L D).L = L ∨ (wrQ x L D).L = { L with durable := endQ L }) := by
 obtain ⟨a1, a2, a3, a4⟩ := lf_ok (x := x) hL hk hr
 obtain ⟨b1, b2, b3⟩ := write_ok a1 (by omega) ((L.m.n + x.n : Nat) : Int) (pgB x.pg)
 unfold wrQ
 split
 ·exact ⟨hk, rfl, by dsimp only; omega, .inl rfl⟩
 ·split
  ·exact ⟨a1, a2, by dsimp only; omega, a4⟩
  ·split
   ·exact ⟨b1, b3.trans a2, by dsimp only; omega, a4⟩
   ·exact ⟨b1, b3.trans a2, by dsimp only; omega, a4⟩
theorem RoomR.disk {L L' : Lg} {D D' : Dk} {P P' : Po} {n : Nat} {r : Option (Nat × Nat)} {e : Int} (h : RoomR L D P n r e P' L' D') (hL : LgOk L) (hk : DkOk D) (hr : D.cache.length + 20000 ≤ roomMax) :
  DkOk D' ∧ D'.kept.length = D.kept.length ∧ D'.cache.length ≤ D.cache.length + 9001 ∧ (L' = L ∨ L' = { L with durable := endQ L }) := by
 cases h with
 | add b h1 => exact ⟨hk, rfl, by omega, .inl rfl⟩
 | swap frs hd x h1 h2 h3 h4 => exact wr_ok hL hk hr
 | fail frs hd x h1 h2 h3 h4 => exact wr_ok hL hk hr
inductive GetR (L : Lg) (D : Dk) (P : Po) (n : Nat) : Except Int Pag → Po → Lg → Dk → Prop
 | no : ¬ hasQ L D n → GetR L D P n (.error 2) P L D
 | hit (i : Nat) (x : Fr) : hasQ L D n → P.frs[i]? = some x → x.n = n → GetR L D P n (.ok x.pg) (setP P i { x with used := true }) L D
 | dark (e : Int) : hasQ L D n → (∀ x ∈ P.frs, x.n ≠ n) → (readQ D (secP L n)).1 = .error e → GetR L D P n (.error e) P L (readQ D (secP L n)).2
 | bad (b : Sec) : hasQ L D n → (∀ x ∈ P.frs, x.n ≠ n) → (readQ D (secP L n)).1 = .ok b → (pageQ b).2 ≠ 0 → GetR L D P n (.error (pageQ b).2) P L (readQ D (secP L n)).2
 | full (b : Sec) (e : Int) (P' : Po) (L' : Lg) (D' : Dk) : hasQ L D n → (∀ x ∈ P.frs, x.n ≠ n) → (readQ D (secP L n)).1 = .ok b → (pageQ b).2 = 0 → RoomR L (readQ D (secP L n)).2 P n none e P' L' D' → GetR L D P n (.error e) P' L' D'
 | get (b : Sec) (f i : Nat) (P' : Po) (L' : Lg) (D' : Dk) (y : Fr) : hasQ L D n → (∀ x ∈ P.frs, x.n ≠ n) → (readQ D (secP L n)).1 = .ok b → (pageQ b).2 = 0 → RoomR L (readQ D (secP L n)).2 P n (some (f, i)) 0 P' L' D' →
   y.b = f → y.n = n → y.pg = (pageQ b).1 → y.fresh = false → FrOk y → GetR L D P n (.ok (pageQ b).1) (setP P' i y) L' D'
theorem GetR.ok {L L' : Lg} {D D' : Dk} {P P' : Po} {n : Nat} {r : Except Int Pag} (h : GetR L D P n r P' L' D') (hP : PoOk P) (hL : LgOk L) (hk : DkOk D) (hr : D.cache.length + 20000 ≤ roomMax) (hn : n < 4294967296) :
  PoOk P' ∧ P'.dl = P.dl ∧ P'.dc = P.dc ∧ P'.most = P.most ∧ DkOk D' ∧ D'.kept.length = D.kept.length ∧ D'.cache.length ≤ D.cache.length + 9001 ∧ (L' = L ∨ L' = { L with durable := endQ L }) := by
 obtain ⟨r1, r2, r3⟩ := read_ok hk (secP L n)
 cases h with
 | no h => exact ⟨hP, rfl, rfl, rfl, hk, rfl, by omega, .inl rfl⟩
 | hit i x h1 h2 h3 =>
  have hx := hP.fr x (List.mem_of_getElem? h2)
  exact ⟨hP.setF h2 rfl rfl ⟨hx.n, hx.wf, hx.ok, hx.cells, hx.may⟩, rfl, rfl, rfl, hk, rfl, by omega, .inl rfl⟩
 | dark e h1 h2 h3 => exact ⟨hP, rfl, rfl, rfl, r1, by rw [r3], by rw [r2]; omega, .inl rfl⟩
 | bad b h1 h2 h3 h4 => exact ⟨hP, rfl, rfl, rfl, r1, by rw [r3], by rw [r2]; omega, .inl rfl⟩
 | full b e P' L' D' h1 h2 h3 h4 h5 =>
  obtain ⟨a1, a2, a3, a4, _⟩ := h5.ok hP hn h2
  obtain ⟨b1, b2, b3, b4⟩ := h5.disk hL r1 (by rw [r2]; omega)
  exact ⟨a1, a2, a3, a4, b1, b2.trans (by rw [r3]), by rw [r2] at b3; omega, b4⟩
 | get b f i P' L' D' y h1 h2 h3 h4 h5 h6 h7 h8 h9 h10 =>
  obtain ⟨a1, a2, a3, a4, _, a5⟩ := h5.ok hP hn h2
  obtain ⟨b1, b2, b3, b4⟩ := h5.disk hL r1 (by rw [r2]; omega)
  exact ⟨a1.setF (a5 _ _ rfl).2 h7 h6 h10, a2, a3, a4, b1, b2.trans (by rw [r3]), by rw [r2] at b3; omega, b4⟩
end Go.Proofs.YtijbhgiigddjdaaGreat.Pl
end
