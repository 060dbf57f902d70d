/-
  Rows, the plain law: there and back. Conditions: each theorem's own.
-/
import Derived.Test.YthdiokdaaofebaaDo
import Derived.Test.YthdiokdaaofebaaM2

namespace Go.Proofs.Ythdiokdaaofebaa.Rw
open Go Go.K Go.Proofs Go.Proofs.Ythdiokdaaofebaa
set_option linter.unusedVariables false
set_option linter.unusedSimpArgs false
set_option maxRecDepth 10000

theorem half (b N : Nat) (hb : b ≤ 1) : (b + 2 * N) / 2 = N ∧ (b + 2 * N) % 2 = b := by omega
theorem div_succ (x i : Nat) : x / 2 ^ (i + 1) = x / 2 / 2 ^ i := by rw [Nat.pow_succ, Nat.mul_comm, ← Nat.div_div_eq_div_mul]
theorem nullNum_bit : ∀ (l : List Val) (i : Nat) (v : Val), l[i]? = some v → (nullNum l / 2 ^ i % 2 = 1 ↔ v.kind = 0)
  | [], i, v, h => by simp at h
  | v0 :: r, i, v, h => by
    obtain ⟨h1, h2⟩ := half (if v0.kind = 0 then 1 else 0) (nullNum r) (by split <;> omega)
    rw [nullNum]
    cases i with
    | zero =>
      simp at h
      subst h
      rw [Nat.pow_zero, Nat.div_one, h2]
      split
      · simp [*]
      · simp [*]
    | succ i =>
      rw [div_succ, h1]
      exact nullNum_bit r i v (by simpa using h)
theorem nullNum_of : ∀ (l : List Val) (x : Nat), x / 2 ^ l.length = 0 → (∀ i v, l[i]? = some v → (x / 2 ^ i % 2 = 1 ↔ v.kind = 0)) → x = nullNum l
  | [], x, h, _ => by simpa [nullNum] using h
  | v0 :: r, x, h, hb => by
    rw [List.length_cons, div_succ] at h
    have ih := nullNum_of r (x / 2) h fun i v hi => by
      have := hb (i + 1) v (by simpa using hi)
      rwa [div_succ] at this
    have h0 := hb 0 v0 rfl
    rw [Nat.pow_zero, Nat.div_one] at h0
    rw [nullNum, ← ih]
    split
    · rename_i hk
      have := h0.2 hk
      omega
    · rename_i hk
      have : ¬ x % 2 = 1 := fun e => hk (h0.1 e)
      omega
theorem nullB_len (r : List Val) : (nullB r).length = (r.length + 7) / 8 := by simp [nullB]
theorem nullB_get (r : List Val) {c : Nat} (hc : c < (r.length + 7) / 8) : ((nullB r).getD c 0).toNat = nullNum ((r.drop (8 * c)).take 8) := by
  have h1 := nullNum_lt ((r.drop (8 * c)).take 8)
  have h2 : ((r.drop (8 * c)).take 8).length ≤ 8 := by rw [List.length_take]; omega
  have h3 : 2 ^ ((r.drop (8 * c)).take 8).length ≤ 2 ^ 8 := Nat.pow_le_pow_right (by omega) h2
  rw [List.getD_eq_getElem?_getD, List.getElem?_eq_getElem (by rw [nullB_len]; exact hc)]
  simp only [nullB, List.getElem_map, List.getElem_range, Option.getD_some]
  rw [UInt8.toNat_ofNat', Nat.mod_eq_of_lt (by omega)]
theorem chunk_get (r : List Val) {j : Nat} (hj : j < r.length) : ((r.drop (8 * (j / 8))).take 8)[j % 8]? = some r[j] := by
  rw [List.getElem?_take, if_pos (by omega), List.getElem?_drop, show 8 * (j / 8) + j % 8 = j from by omega, List.getElem?_eq_getElem hj]
theorem isNull_nullB (r : List Val) {j : Nat} (hj : j < r.length) : isNull (nullB r) j = decide (r[j].kind = 0) := by
  unfold isNull
  rw [nullB_get r (by omega), Bool.eq_iff_iff, decide_eq_true_iff, decide_eq_true_iff]
  exact nullNum_bit _ _ _ (chunk_get r hj)

theorem rdV_one {v : Val} (hw : wfV v) (hok : okV v = true) (hk : v.kind ≠ 0) (rest : List UInt8) : rdV v.kind true (valB v ++ rest) = (v, true, rest) := by
  have hp := (okV_iff v).1 hok
  have hn1 := hw.n1
  have hn2 := hw.n2
  have hz := zig_lt hn1 hn2
  obtain ⟨k, n, s⟩ := v
  dsimp only at hk hn1 hn2 hz hp ⊢
  unfold okVP at hp
  dsimp only at hp
  have hv : valB ⟨k, n, s⟩ = oneB ⟨k, n, s⟩ := by unfold valB; rw [if_neg hk]
  rw [hv]
  rcases hp with ⟨rfl, _⟩ | ⟨rfl, hs⟩ | ⟨rfl, hn, hs⟩ | ⟨rfl, hs, hn⟩
  · exact absurd rfl hk
  · have e : oneB ⟨1, n, s⟩ = cu (zig n) := by unfold oneB; rw [if_neg (by dsimp only; omega), if_neg (by dsimp only; omega)]
    have hf : Cc.found true (cu (zig n) ++ rest) = some (zig n, (cu (zig n)).length) := front_cu _ hz rest
    unfold rdV
    rw [if_pos rfl, e, hf, hs]
    show ((⟨1, unzig (zig n), ⟨#[]⟩⟩ : Val), true, (cu (zig n) ++ rest).drop (cu (zig n)).length) = _
    rw [unzig_zig, List.drop_left' rfl]
  · have e : oneB ⟨2, n, s⟩ = cu s.size ++ s.data.toList := by unfold oneB; rw [if_neg (by dsimp only; omega), if_pos rfl]
    have hf : Cc.found true (cu s.size ++ s.data.toList ++ rest) = some (s.size, (cu s.size).length) := by
      rw [List.append_assoc]
      exact front_cu _ (by omega) _
    have hl : s.data.toList.length = s.size := by simp
    have ht : Cc.txt true (cu s.size ++ s.data.toList ++ rest) 64 = some (s.size, (cu s.size).length) := by
      unfold Cc.txt
      rw [hf]
      dsimp only
      rw [if_pos ⟨by omega, by omega, by simp only [List.length_append]; omega⟩]
    unfold rdV
    rw [if_neg (by decide), if_pos rfl, e, ht, hn]
    have hd : (cu s.size ++ s.data.toList ++ rest).drop (cu s.size).length = s.data.toList ++ rest := by rw [List.append_assoc, List.drop_left' rfl]
    show ((⟨2, 0, ⟨(((cu s.size ++ s.data.toList ++ rest).drop (cu s.size).length).take s.size).toArray⟩⟩ : Val), true, ((cu s.size ++ s.data.toList ++ rest).drop (cu s.size).length).drop s.size) = _
    rw [hd, List.take_left' hl, List.drop_left' hl]
  · have e : oneB ⟨3, n, s⟩ = [UInt8.ofNat n.toNat] := by
      unfold oneB
      rw [if_pos rfl]
      show [UInt8.ofNat (n.toNat % 256)] = _
      rw [Nat.mod_eq_of_lt (by omega)]
    unfold rdV
    rw [if_neg (by decide), if_neg (by decide), e]
    have e1 : Cc.getN true 1 ([UInt8.ofNat n.toNat] ++ rest) = n.toNat := by
      unfold Cc.getN
      rw [if_pos ⟨rfl, by simp⟩]
      simp [leNum]
      omega
    have e2 : Cc.getOk true 1 ([UInt8.ofNat n.toNat] ++ rest) = true := by simp [Cc.getOk]
    have e3 : Cc.getRem true 1 ([UInt8.ofNat n.toNat] ++ rest) = rest := by
      unfold Cc.getRem
      rw [if_pos ⟨rfl, by simp⟩]
      rfl
    rw [e1, e2, e3, hs, Int.toNat_of_nonneg (by omega)]
theorem zero_of {v : Val} (hok : okV v = true) (hk : v.kind = 0) : v = zeroV := by
  have hp := (okV_iff v).1 hok
  obtain ⟨k, n, s⟩ := v
  unfold okVP at hp
  dsimp only at hp hk
  rcases hp with ⟨h1, h2, h3⟩ | ⟨h1, _⟩ | ⟨h1, _⟩ | ⟨h1, _⟩
  · rw [h1, h2, h3]; rfl
  all_goals omega
theorem rowP_enc {l : List Col} {r : List Val} (hf : fitsE l r = 0) (hw : ∀ v ∈ r, wfV v) : ∀ j, j ≤ r.length → rowP (nullB r) l j true (r.flatMap valB) = (r.take j, true, (r.drop j).flatMap valB)
  | 0, _ => by simp [rowP]
  | j + 1, hj => by
    obtain ⟨f1, f2, f3, f4⟩ := fits_ok hf
    have hlt : j < r.length := by omega
    have hjl : j < l.length := by omega
    have hfl : fitsL l r = 0 := by
      unfold fitsE at hf
      split at hf
      · cases hf
      · exact hf
    obtain ⟨o1, o2⟩ := fitsL_ok l r f2 hfl j _ _ (List.getElem?_eq_getElem hlt) (List.getElem?_eq_getElem hjl)
    have hwj := hw _ (List.getElem_mem hlt)
    rw [rowP, List.getElem?_eq_getElem hjl]
    dsimp only
    rw [isNull_nullB r hlt, rowP_enc hf hw j (by omega), List.take_succ_eq_append_getElem hlt, List.drop_eq_getElem_cons hlt, List.flatMap_cons]
    dsimp only
    generalize r[j] = v at o1 o2 hwj
    by_cases hk : v.kind = 0
    · rw [decide_eq_true hk, if_pos rfl, zero_of o1 hk]
      rfl
    · rw [decide_eq_false hk, if_neg (by decide), ← o2.resolve_left hk, rdV_one hwj o1 hk]
/-- What was written is read as it was. -/
theorem dec_enc {l : List Col} {r : List Val} {t : List UInt8} (he : encR l r = (t, 0)) (hw : ∀ v ∈ r, wfV v) : decP l t = (r, 0) ∧ fitsE l r = 0 := by
  unfold encR at he
  split at he
  · rename_i h1
    exact absurd (congrArg Prod.snd he) h1
  rename_i h1
  have hf : fitsE l r = 0 := by
    rcases Int.lt_trichotomy (fitsE l r) 0 with h | h | h
    · exact absurd (by omega) h1
    · exact h
    · exact absurd (by omega) h1
  split at he
  · cases congrArg Prod.snd he
  rename_i h160
  obtain rfl : encB r = t := congrArg Prod.fst he
  obtain ⟨f1, f2, f3, f4⟩ := fits_ok hf
  refine ⟨?_, hf⟩
  have hnl := nullB_len r
  have hb := bytesN_take ((l.length + 7) / 8) (encB r) (by unfold encB; rw [List.length_append, hnl]; omega)
  have e1 : (encB r).take ((l.length + 7) / 8) = nullB r := by unfold encB; exact List.take_left' (by rw [hnl, f2])
  have e2 : (encB r).drop ((l.length + 7) / 8) = r.flatMap valB := by unfold encB; exact List.drop_left' (by rw [hnl, f2])
  rw [e1, e2] at hb
  have hr := rowP_enc hf hw r.length (Nat.le_refl _)
  rw [f2, List.drop_of_length_le (by omega), List.take_of_length_le (by omega), List.flatMap_nil] at hr
  rw [decP, if_neg (by rw [f1]; decide), if_neg h160, hb]
  dsimp only
  rw [hr]
  dsimp only
  rw [if_neg, if_neg]
  · rintro (h | h)
    · simp at h
    · exact h hf
  · rintro ⟨h2, h3⟩
    refine h3 ?_
    rw [← f2, nullB_get r (by omega)]
    refine Nat.div_eq_of_lt (Nat.lt_of_lt_of_le (nullNum_lt _) (Nat.pow_le_pow_right (by omega) ?_))
    rw [List.length_take, List.length_drop]
    omega
theorem rdV_back {k : Int} (hk : k = 1 ∨ k = 2 ∨ k = 3) {rem rem' : List UInt8} {v : Val} (h : rdV k true rem = (v, true, rem')) (hok : okV v = true) : rem = valB v ++ rem' ∧ v.kind = k := by
  rcases hk with rfl | rfl | rfl
  · unfold rdV at h
    rw [if_pos rfl] at h
    have hfd : Cc.found true rem = front rem := rfl
    rw [hfd] at h
    cases hf : front rem with
    | none => rw [hf] at h; cases congrArg (fun q => q.2.1) h
    | some p =>
      obtain ⟨x, m⟩ := p
      rw [hf] at h
      obtain rfl : (⟨1, unzig x, ⟨#[]⟩⟩ : Val) = v := congrArg (fun q => q.1) h
      obtain rfl : rem.drop m = rem' := congrArg (fun q => q.2.2) h
      refine ⟨?_, rfl⟩
      have e : valB ⟨1, unzig x, ⟨#[]⟩⟩ = cu x := by
        unfold valB oneB
        rw [if_neg (by dsimp only; omega), if_neg (by dsimp only; omega), if_neg (by dsimp only; omega), zig_unzig]
      rw [e, cu_front hf, List.take_append_drop]
  · unfold rdV at h
    rw [if_neg (by decide), if_pos rfl] at h
    cases ht : Cc.txt true rem 64 with
    | none => rw [ht] at h; cases congrArg (fun q => q.2.1) h
    | some p =>
      obtain ⟨x, m⟩ := p
      rw [ht] at h
      obtain rfl : (⟨2, 0, ⟨((rem.drop m).take x).toArray⟩⟩ : Val) = v := congrArg (fun q => q.1) h
      obtain rfl : (rem.drop m).drop x = rem' := congrArg (fun q => q.2.2) h
      refine ⟨?_, rfl⟩
      unfold Cc.txt at ht
      have hfd : Cc.found true rem = front rem := rfl
      rw [hfd] at ht
      cases hf : front rem with
      | none => rw [hf] at ht; cases ht
      | some p =>
        obtain ⟨x', m'⟩ := p
        rw [hf] at ht
        dsimp only at ht
        split at ht
        · rename_i hc
          cases ht
          have hsz : (⟨((rem.drop m).take x).toArray⟩ : ByteArray).size = x := by
            show ((rem.drop m).take x).toArray.size = x
            rw [List.size_toArray, List.length_take, List.length_drop]
            omega
          have e : valB ⟨2, 0, ⟨((rem.drop m).take x).toArray⟩⟩ = cu x ++ (rem.drop m).take x := by
            unfold valB oneB
            rw [if_neg (by dsimp only; omega), if_neg (by dsimp only; omega), if_pos rfl]
            dsimp only
            rw [hsz]
          rw [e, cu_front hf, List.append_assoc, List.take_append_drop, List.take_append_drop]
        · cases ht
  · have hk1 : ¬ (3 : Int) = 1 := by decide
    have hk2 : ¬ (3 : Int) = 2 := by decide
    unfold rdV at h
    rw [if_neg hk1, if_neg hk2] at h
    cases rem with
    | nil => cases congrArg (fun q => q.2.1) h
    | cons c r =>
      have e1 : Cc.getN true 1 (c :: r) = c.toNat := by
        unfold Cc.getN
        rw [if_pos ⟨rfl, by simp⟩]
        simp [leNum]
      have e3 : Cc.getRem true 1 (c :: r) = r := by
        unfold Cc.getRem
        rw [if_pos ⟨rfl, by simp⟩]
        rfl
      rw [e1, e3] at h
      obtain rfl : (⟨3, (c.toNat : Nat), ⟨#[]⟩⟩ : Val) = v := congrArg (fun q => q.1) h
      obtain rfl : r = rem' := congrArg (fun q => q.2.2) h
      refine ⟨?_, rfl⟩
      have hcl := c.toNat_lt
      have e : valB ⟨3, (c.toNat : Nat), ⟨#[]⟩⟩ = [c] := by
        unfold valB oneB
        rw [if_neg (by dsimp only; omega), if_pos rfl]
        show [UInt8.ofNat (((c.toNat : Nat) : Int).toNat % 256)] = _
        rw [Int.toNat_natCast, Nat.mod_eq_of_lt hcl, UInt8.ofNat_toNat]
      rw [e]
      rfl
theorem row_back {b : List UInt8} {l : List Col} {rem : List UInt8} (hm : mayB l = true) : ∀ j, j ≤ l.length → (rowP b l j true rem).2.1 = true → (∀ v ∈ (rowP b l j true rem).1, okV v = true) →
    rem = (rowP b l j true rem).1.flatMap valB ++ (rowP b l j true rem).2.2 ∧ ∀ i v, (rowP b l j true rem).1[i]? = some v → (isNull b i = true ↔ v.kind = 0)
  | 0, _, _, _ => by simp [rowP]
  | j + 1, hj, hok, hall => by
    have hjl : j < l.length := by omega
    have hlen := (rowP_len b l j true rem (by omega)).1
    have hkd := mayB_ok hm l[j] (List.getElem_mem hjl)
    have hrp : rowP b l (j + 1) true rem = if isNull b j = true then ((rowP b l j true rem).1 ++ [zeroV], (rowP b l j true rem).2) else ((rowP b l j true rem).1 ++ [(rdV l[j].kind (rowP b l j true rem).2.1 (rowP b l j true rem).2.2).1], (rdV l[j].kind (rowP b l j true rem).2.1 (rowP b l j true rem).2.2).2) := by
      rw [rowP, List.getElem?_eq_getElem hjl]
    generalize l[j] = c at hrp hkd
    rw [hrp] at hok hall ⊢
    have ih := row_back (b := b) (rem := rem) hm j (by omega)
    generalize rowP b l j true rem = q at hrp hok hall ih hlen
    obtain ⟨row, ok1, rem1⟩ := q
    dsimp only at hrp hok hall ih hlen ⊢
    have snoc : ∀ (w : Val), (∀ i v, row[i]? = some v → (isNull b i = true ↔ v.kind = 0)) → (isNull b j = true ↔ w.kind = 0) → ∀ i v, (row ++ [w])[i]? = some v → (isNull b i = true ↔ v.kind = 0) := fun w h1 h2 i v hi => by
      by_cases hij : i < row.length
      · rw [List.getElem?_append_left hij] at hi
        exact h1 i v hi
      · rw [List.getElem?_append_right (by omega)] at hi
        have : i - row.length = 0 := by
          rcases Nat.eq_zero_or_pos (i - row.length) with h | h
          · exact h
          · rw [List.getElem?_eq_none (by simp; omega)] at hi; cases hi
        rw [this] at hi
        simp at hi
        subst hi
        obtain rfl : i = j := by omega
        exact h2
    cases hn : isNull b j with
    | true =>
      rw [hn, if_pos rfl] at hok hall
      rw [if_pos rfl]
      obtain ⟨i1, i2⟩ := ih hok fun v hv => hall v (List.mem_append_left _ hv)
      refine ⟨?_, snoc zeroV i2 (by rw [hn]; simp [zeroV])⟩
      dsimp only
      rw [List.flatMap_append]
      show rem = (row.flatMap valB ++ []) ++ rem1
      rw [List.append_nil]
      exact i1
    | false =>
      rw [hn, if_neg (by decide)] at hok hall
      rw [if_neg (by decide)]
      dsimp only at hok hall ⊢
      have hok1 : ok1 = true := by
        cases ok1 with
        | true => rfl
        | false => rw [rdV_false] at hok; cases hok
      subst hok1
      obtain ⟨i1, i2⟩ := ih rfl fun v hv => hall v (List.mem_append_left _ hv)
      have ho := hall _ (List.mem_append_right _ (List.mem_singleton.2 rfl))
      generalize hq : rdV c.kind true rem1 = q at hok ho
      obtain ⟨w, ok2, rem2⟩ := q
      dsimp only at hok ho ⊢
      subst hok
      obtain ⟨b1, b2⟩ := rdV_back hkd hq ho
      refine ⟨?_, snoc w i2 (by rw [hn, b2]; constructor; (intro e; cases e); (intro e; omega))⟩
      rw [List.flatMap_append, List.flatMap_singleton, List.append_assoc, ← b1]
      exact i1
/-- What was read is just what is written of it. -/
theorem enc_dec {l : List Col} {r : List Val} {s : List UInt8} (h : decP l s = (r, 0)) : encR l r = (s, 0) := by
  unfold decP at h
  split at h
  · cases congrArg Prod.snd h
  rename_i hm
  have hm : mayB l = true := by simpa using hm
  split at h
  · cases congrArg Prod.snd h
  rename_i h160
  dsimp only at h
  split at h
  · cases congrArg Prod.snd h
  rename_i hhigh
  split at h
  · cases congrArg Prod.snd h
  rename_i hq
  have hr := congrArg Prod.fst h
  dsimp only at hr
  have hml : (l.length + 7) / 8 ≤ s.length := by
    rcases Nat.lt_or_ge s.length ((l.length + 7) / 8) with hlt | hge
    · exfalso
      have hb : badP (rowP (bytesN ((l.length + 7) / 8) true s).1 l 0 (bytesN ((l.length + 7) / 8) true s).2.1 (bytesN ((l.length + 7) / 8) true s).2.2) := .inl (bytesN_short _ _ hlt)
      rcases bad_le hb (Nat.zero_le l.length) with e | ⟨v, hv, e⟩
      · exact hq (.inl (by rw [e]; rfl))
      · refine hq (.inr fun e2 => ?_)
        rw [(fits_ok e2).2.2.2 v hv] at e
        cases e
    · exact hge
  rw [bytesN_take _ _ hml] at hq hr hhigh
  dsimp only at hq hr hhigh
  have hfit : fitsE l (rowP (s.take ((l.length + 7) / 8)) l l.length true (s.drop ((l.length + 7) / 8))).1 = 0 := by
    rcases Int.lt_trichotomy (fitsE l (rowP (s.take ((l.length + 7) / 8)) l l.length true (s.drop ((l.length + 7) / 8))).1) 0 with e | e | e
    · exact absurd (.inr (by omega)) hq
    · exact e
    · exact absurd (.inr (by omega)) hq
  have hend : ((rowP (s.take ((l.length + 7) / 8)) l l.length true (s.drop ((l.length + 7) / 8))).2.1 && decide ((rowP (s.take ((l.length + 7) / 8)) l l.length true (s.drop ((l.length + 7) / 8))).2.2 = [])) = true := by
    rcases Bool.eq_false_or_eq_true ((rowP (s.take ((l.length + 7) / 8)) l l.length true (s.drop ((l.length + 7) / 8))).2.1 && decide ((rowP (s.take ((l.length + 7) / 8)) l l.length true (s.drop ((l.length + 7) / 8))).2.2 = [])) with e | e
    · exact e
    · exact absurd (.inl e) hq
  simp only [Bool.and_eq_true, decide_eq_true_eq] at hend
  obtain ⟨f1, f2, f3, f4⟩ := fits_ok hfit
  obtain ⟨b1, b2⟩ := row_back (b := s.take ((l.length + 7) / 8)) (rem := s.drop ((l.length + 7) / 8)) hm l.length (Nat.le_refl _) hend.1 f4
  rw [hend.2, List.append_nil] at b1
  rw [hr] at hfit f2 f3 f4 b1 b2
  have hnb : nullB r = s.take ((l.length + 7) / 8) := by
    refine List.ext_getElem (by rw [nullB_len, f2, List.length_take]; omega) fun c h1 h2 => ?_
    have hc : c < (r.length + 7) / 8 := by rwa [nullB_len] at h1
    have hx256 : (s.take ((l.length + 7) / 8))[c].toNat < 256 := UInt8.toNat_lt _
    have hgd : (s.take ((l.length + 7) / 8)).getD c 0 = (s.take ((l.length + 7) / 8))[c] := by
      rw [List.getD_eq_getElem?_getD, List.getElem?_eq_getElem h2]; rfl
    have hx : (s.take ((l.length + 7) / 8))[c].toNat = nullNum ((r.drop (8 * c)).take 8) := by
      refine nullNum_of _ _ ?_ fun i v hi => ?_
      · by_cases h8 : 8 * c + 8 ≤ r.length
        · rw [List.length_take, List.length_drop, Nat.min_eq_left (by omega)]
          exact Nat.div_eq_of_lt hx256
        · have hcm : c = (l.length + 7) / 8 - 1 := by omega
          rw [List.length_take, List.length_drop, Nat.min_eq_right (by omega), show r.length - 8 * c = l.length % 8 from by omega]
          rw [← hgd, hcm]
          rcases Nat.eq_zero_or_pos ((s.take ((l.length + 7) / 8)).getD ((l.length + 7) / 8 - 1) 0).toNat with e | e
          · rw [e, Nat.zero_div]
          · rcases Nat.eq_zero_or_pos (((s.take ((l.length + 7) / 8)).getD ((l.length + 7) / 8 - 1) 0).toNat / 2 ^ (l.length % 8)) with e2 | e2
            · exact e2
            · exact absurd ⟨by omega, by omega⟩ hhigh
      · have hi8 : i < 8 := by
          rcases Nat.lt_or_ge i 8 with h' | h'
          · exact h'
          · rw [List.getElem?_take, if_neg (by omega)] at hi; cases hi
        rw [List.getElem?_take, if_pos hi8, List.getElem?_drop] at hi
        have := b2 (8 * c + i) v hi
        unfold isNull at this
        rw [show (8 * c + i) / 8 = c from by omega, show (8 * c + i) % 8 = i from by omega, hgd, decide_eq_true_iff] at this
        exact this
    have := nullB_get r hc
    rw [List.getD_eq_getElem?_getD, List.getElem?_eq_getElem h1, Option.getD_some, ← hx] at this
    exact UInt8.toNat_inj.1 this
  have hs : encB r = s := by
    unfold encB
    rw [hnb, ← b1, List.take_append_drop]
  rw [encR, if_neg (by omega), hs, if_neg h160]
/-- Unlike rows have unlike texts. -/
theorem enc_inj {l : List Col} {r r' : List Val} {t u : List UInt8} (h1 : encR l r = (t, 0)) (h2 : encR l r' = (u, 0)) (hw : ∀ v ∈ r, wfV v) (hw' : ∀ v ∈ r', wfV v) : t = u ↔ r = r' := by
  constructor
  · rintro rfl
    have a := (dec_enc h1 hw).1
    rw [(dec_enc h2 hw').1] at a
    exact (congrArg Prod.fst a).symm
  · rintro rfl
    rw [h1] at h2
    exact congrArg Prod.fst h2
end Go.Proofs.Ythdiokdaaofebaa.Rw
