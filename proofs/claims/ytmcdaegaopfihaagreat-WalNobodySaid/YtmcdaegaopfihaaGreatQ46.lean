/-
  Texts joined: Sp Aa. Conditions: each theorem's own.
-/
import Derived.Test.YtmcdaegaopfihaaGreatQ40
import Derived.Test.YtmcdaegaopfihaaGreatQ30
import Derived.Test.YtmcdaegaopfihaaGreatQ45
section
namespace Go.Proofs.YtmcdaegaopfihaaGreat.Wl
open Go Go.K Go.Proofs Go.Proofs.YtmcdaegaopfihaaGreat Go.Proofs.YtmcdaegaopfihaaGreat.Cc Go.Proofs.YtmcdaegaopfihaaGreat.Rc
set_option linter.unusedVariables false
set_option linter.unusedSimpArgs false
set_option maxRecDepth 10000

theorem StrAppend {n : NN} {E : Env} {h : Base} {H : List Asrt} {ops : Array Oper} {rest : List Oper} {Q : Exit → Act → World → Prop} {W : LM} {l bs : List UInt8} {t t2 ty : TypeId} {ps : String} {af : Array Edge} {d m : Nat} {x y : Operand} {yv : Value} (i : Nat) (hi : H[i]? = some W.sA)
    (hs : StrOk h W l) (hu : Tryz.prog.underlying t = some (.slice 5)) (hu2 : Tryz.prog.underlying t2 = some (.slice 5)) (hx : lkO E x = some W.sv) (hy : lkO E y = some yv) (hsrc : Src Tryz.prog h (H.eraseIdx i) 1 yv m (bs.map u8)) (h0 : 0 < m) (hm : l.length + m ≤ 1000000000000) (hd : Nat.blt d n = true)
    (hk : ∀ sv sA, StrOk h ⟨sv, sA, W.ar, W.kr⟩ (l ++ bs) → WL Tryz.prog n ops Q rest ((d, sv) :: E) h (H.set i sA)) :
    WL Tryz.prog n ops Q (⟨some d, .call ⟨.builtin .append, #[x, y], #[t, t2]⟩, ty, ps, af, none⟩ :: rest) E h H := by
  have hbl : bs.length = m := by have := hsrc.size; rw [List.length_map, Nat.mul_one] at this; exact this
  have hn : ∀ a' cap', StrOk h ⟨bufV a' (l.length + m) cap', bufA 5 1 a' (l.length + m) cap' (l.map u8 ++ bs.map u8), W.ar, W.kr⟩ (l ++ bs) := fun a' cap' => .inl ⟨a', cap', by rw [List.length_append, hbl], by rw [List.length_append, hbl, List.map_append]⟩
  have hdrop : ∀ {A : Asrt} {E' : Env}, WL Tryz.prog n ops Q rest E' h (H.set i A) → WL Tryz.prog n ops Q rest E' h (A :: H) := fun {A E'} hw =>
    WL.perm (List.Perm.cons A (at_perm hi)) (WL.perm (List.Perm.swap _ _ _) (WL.drop (WL.perm (set_perm hi) hw)))
  rcases hs with ⟨a, cap, e1, e2⟩ | ⟨ao, e1, hb, e2⟩
  · rw [e1] at hx
    rw [e2] at hi
    exact l_append_at i hi hu hu2 rfl (Fx.sz rfl) (Fx.zr rfl) rfl (Fx.byt rfl) hx hy hsrc (by omega) (by omega) hd fun a' cap' => hk _ _ (hn a' cap')
  · rw [e1] at hx hb
    have hsrc1 : Src Tryz.prog h H 1 yv m (bs.map u8) := hsrc.sub fun A hA => List.mem_of_mem_eraseIdx hA
    cases ao with
    | none =>
      have hl : l = [] := by
        rcases hb with ⟨_, _, _, hl⟩ | ⟨b, o, c, e, _, _⟩
        · exact hl
        · cases e
      subst hl
      refine K.WL.nilBuf 5 1 ?_
      refine l_append_at (a := none) (sLen := 0) (cap := 0) (cs := []) 0 rfl hu hu2 rfl (Fx.sz rfl) (Fx.zr rfl) rfl (Fx.byt rfl) hx hy hsrc1 (by omega) (by omega) hd fun a' cap' => ?_
      exact hdrop (hk _ _ (hn a' cap'))
    | some ad =>
      have hx0 : Src Tryz.prog h H 1 (.slice (some ad) l.length l.length) l.length (l.map u8) := by
        rcases hb with ⟨ao', c', e, hl⟩ | ⟨b, o, c, e, _, hc⟩
        · subst hl; exact K.src_empty
        · cases e
          exact K.src_cells (Cels.up hc) (by rw [List.length_map, Nat.mul_one]) (fun u hu => by obtain ⟨z, _, rfl⟩ := List.mem_map.1 hu; exact u8_one z)
      exact l_appendSrc hu hu2 rfl (Fx.sz rfl) (Fx.zr rfl) rfl (Fx.byt rfl) hx hy hx0 hsrc1 (by omega) (by omega) (by omega) hd fun a' cap' => hdrop (hk _ _ (hn a' cap'))
theorem enc_pos {r : Recd} (h : (encR r).2 = 0) : 3 ≤ (encR r).1.length := by
  unfold encR at h ⊢
  split
  · unfold encN bodyN
    simp only [List.length_append, lebs_length, List.length_cons]
    omega
  · rename_i hm; rw [if_neg hm] at h; cases h
def appQ (L : Lg) (r : Recd) : (Nat × Int) × Lg := if (encR r).2 ≠ 0 then ((0, (encR r).2), L) else if roomQ L < (encR r).1.length then ((0, 4), L) else ((endQ L, 0), { L with stream := L.stream ++ (encR r).1, starts := L.starts ++ [endQ L] })
set_option maxHeartbeats 4000000 in
theorem Append (h : Base) (p d : Nat) (W : LM) (L : Lg) (ho : LgOk L) (hs : StrOk h W L.stream) (cs : List Value) (r : Recd) (hx : RecC h cs r) (hsm : smallR r) :
    Tr Tryz.prog 8 [pv p, .agg cs.toArray] h (lgA p d W L) (fun u h' H' => h' = h ∧ u = .tuple #[n64 (appQ L r).1.1, .int .i64 (appQ L r).1.2] ∧ ∃ W', StrOk h W' (appQ L r).2.stream ∧ H' = lgA p d W' (appQ L r).2) := by
  have henc := RecEncode h cs r hx hsm
  have hno := LNone h p d W L
  have hro := LRoom h p d W L ho hs
  have hen := LEnd h p d W L ho hs
  have hst := ho.str
  have hsl := ho.sts
  have hmn := ho.mas.n
  have hpos := enc_pos (r := r)
  have hrle : roomQ L ≤ L.m.n * 510 := by unfold roomQ; split <;> omega
  obtain ⟨hw, ad, ai, al, ay, cd, ci, cl, cy, rfl, _⟩ := hx.cells
  refine K.enter Tryz.func8 rfl (Nat.le_of_ble_eq_true rfl) (fun F => ?_)
  (repeat' (first | refine X.rq ?_ | (refine X.rc ?_ ?_ <;> intro hc <;> first | (exfalso; omega) | skip)))
  refine K.l_box rfl rfl rfl (fun B3 => ?_)
  (repeat' (first | refine X.rq ?_ | (refine X.rc ?_ ?_ <;> intro hc <;> first | (exfalso; omega) | skip)))
  refine K.l_callV (Fx.cal rfl) rfl hno (K.pp [1, 1, 1] rfl) rfl rfl ?_
  refine K.WL.perm (K.pp [3] rfl) ?_
  (repeat' (first | refine X.rq ?_ | (refine X.rc ?_ ?_ <;> intro hc <;> first | (exfalso; omega) | skip)))
  refine K.l_call (Fx.cal rfl) rfl henc (K.pp [] rfl) rfl ?_
  rintro u h' H' - ⟨rfl, a, cap, rfl, rfl⟩
  simp only [List.cons_append, List.nil_append]
  simp only [List.set_cons_zero, List.set_cons_succ, List.eraseIdx_cons_zero, List.eraseIdx_cons_succ, List.cons_append, List.nil_append]
  unfold appQ
  by_cases he : (encR r).2 = 0
  · rw [if_neg (by omega), he]
    have hpos := hpos he
    (repeat' (first | refine X.rq ?_ | (refine X.rc ?_ ?_ <;> intro hc <;> first | (exfalso; omega) | skip)))
    all_goals try (exfalso; omega)
    refine K.l_callV (Fx.cal rfl) rfl hro (K.pp [2, 2, 2] rfl) rfl rfl ?_
    by_cases hrm : roomQ L < (encR r).1.length
    · rw [if_pos hrm]
      (repeat' (first | refine X.rq ?_ | (refine X.rc ?_ ?_ <;> intro hc <;> first | (exfalso; omega) | skip)))
      all_goals try (exfalso; omega)
      refine K.AT.perm (K.pp [3, 3] rfl) ?_
      exact K.doneC (vs := [n64 0, .int .i64 4]) (by first | exact Or.inl rfl | exact Or.inr rfl) (.tmp rfl (.tmp rfl .nil)) (K.Base.le.refl _) (D := [_, _]) (H' := [_, _, _]) rfl ⟨rfl, rfl, W, hs, rfl⟩
    · rw [if_neg hrm]
      (repeat' (first | refine X.rq ?_ | (refine X.rc ?_ ?_ <;> intro hc <;> first | (exfalso; omega) | skip)))
      all_goals try (exfalso; omega)
      refine K.l_callV (Fx.cal rfl) rfl hen (K.pp [0, 0, 0] rfl) rfl rfl ?_
      unfold lgA lgV startsA
      simp only [List.cons_append, List.nil_append]
      (repeat' (first | refine X.rq ?_ | (refine X.rc ?_ ?_ <;> intro hc <;> first | (exfalso; omega) | skip)))
      refine K.l_buildSlice (cs := [n64 (endQ L)]) (Fx.und rfl) (Fx.sz rfl) rfl (Fx.zr rfl) rfl rfl rfl rfl rfl (fun B34 => ?_)
      refine K.l_append_at 3 rfl (Fx.und rfl) (Fx.und rfl) rfl (Fx.sz rfl) (Fx.zr rfl) rfl (Fx.byt rfl) rfl rfl (K.src_cells (m := 1) (K.cels_own (pre := []) (cs := [n64 (endQ L)]) (post := []) 0 rfl rfl) rfl (fun u hu => by rw [List.mem_singleton.1 hu]; rfl)) (by omega) (by omega) rfl (fun ar' kr' => ?_)
      simp only [List.set_cons_zero, List.set_cons_succ, List.eraseIdx_cons_zero, List.eraseIdx_cons_succ, List.cons_append, List.nil_append]
      (repeat' (first | refine X.rq ?_ | (refine X.rc ?_ ?_ <;> intro hc <;> first | (exfalso; omega) | skip)))
      refine X.sto ?_
      simp only [List.set_cons_zero, List.set_cons_succ, List.eraseIdx_cons_zero, List.eraseIdx_cons_succ, List.cons_append, List.nil_append]
      (repeat' (first | refine X.rq ?_ | (refine X.rc ?_ ?_ <;> intro hc <;> first | (exfalso; omega) | skip)))
      refine StrAppend (W := W) 2 rfl hs (Fx.und rfl) (Fx.und rfl) rfl rfl (K.src_buf 3 rfl (fun u hu => by obtain ⟨z, _, rfl⟩ := List.mem_map.1 hu; exact u8_one z) (by rw [List.length_map, Nat.mul_one])) (by omega) (by omega) rfl (fun sv sA hs' => ?_)
      have hs2 := hs'.len
      dsimp only at hs2
      obtain ⟨so2, sc2, rfl⟩ := hs2
      simp only [List.set_cons_zero, List.set_cons_succ, List.eraseIdx_cons_zero, List.eraseIdx_cons_succ, List.cons_append, List.nil_append]
      (repeat' (first | refine X.rq ?_ | (refine X.rc ?_ ?_ <;> intro hc <;> first | (exfalso; omega) | skip)))
      refine X.sto ?_
      simp only [List.set_cons_zero, List.set_cons_succ, List.eraseIdx_cons_zero, List.eraseIdx_cons_succ, List.cons_append, List.nil_append]
      (repeat' (first | refine X.rq ?_ | (refine X.rc ?_ ?_ <;> intro hc <;> first | (exfalso; omega) | skip)))
      rw [show L.starts.length + 1 = (L.starts ++ [endQ L]).length by simp, show L.starts.map n64 ++ [n64 (endQ L)] = (L.starts ++ [endQ L]).map n64 by simp]
      refine K.AT.perm (K.pp [0, 3, 3] rfl) ?_
      exact K.doneC (vs := [n64 (endQ L), .int .i64 0]) (by first | exact Or.inl rfl | exact Or.inr rfl) (.tmp rfl (.tmp rfl .nil)) (K.Base.le.refl _) (D := [_, _, _]) (H' := [_, _, _]) rfl ⟨rfl, rfl, ⟨_, sA, ar', kr'⟩, hs', rfl⟩
  · rw [if_pos he]
    (repeat' (first | refine X.rq ?_ | (refine X.rc ?_ ?_ <;> intro hc <;> first | (exfalso; omega) | skip)))
    all_goals try (exfalso; omega)
    refine K.AT.perm (K.pp [2, 2, 2] rfl) ?_
    refine K.AT.perm (K.pp [3, 3] rfl) ?_
    exact K.doneC (vs := [n64 0, .int .i64 (encR r).2]) (by first | exact Or.inl rfl | exact Or.inr rfl) (.tmp rfl (.tmp rfl .nil)) (K.Base.le.refl _) (D := [_, _]) (H' := [_, _, _]) rfl ⟨rfl, rfl, W, hs, rfl⟩
end Go.Proofs.YtmcdaegaopfihaaGreat.Wl
end

section
namespace Go.Proofs.YtmcdaegaopfihaaGreat.Wl
open Go Go.K Go.Proofs Go.Proofs.YtmcdaegaopfihaaGreat Go.Proofs.YtmcdaegaopfihaaGreat.Cc Go.Proofs.YtmcdaegaopfihaaGreat.Rc
set_option linter.unusedVariables false
set_option linter.unusedSimpArgs false
set_option maxRecDepth 10000

theorem format_run {D : Dk} {n : Nat} (hk : DkOk D) (hc : D.cache = []) (hn : NoTrip D) (n1 : 16 ≤ n) (n2 : n < D.kept.length) :
    (formatQ n D).1 = 0 ∧ NoTrip (formatQ n D).2 ∧ (formatQ n D).2.kept.length = D.kept.length ∧ Run (formatQ n D).2 ⟨master0 n, [], [], 1⟩ [] 0 := by
  have hf := hk.few
  have e : formatQ n D = stepsQ [wipeS n, writeS (master0 n), syncS] D := by unfold formatQ; rw [if_neg (by omega), Int.toNat_natCast]
  have hok : DkOk (formatQ n D).2 := by
    rw [e]
    exact (steps_ok (fun s hs => by
      simp only [List.mem_cons, List.not_mem_nil, or_false] at hs
      rcases hs with rfl | rfl | rfl
      · exact wipeS_good _
      · exact writeS_good _
      · exact syncS_good) hk (by rw [hc]; simp only [sumK, wipeS, writeS, syncS, List.length_nil]; unfold roomMax; omega)).1
  rw [e] at hok ⊢
  obtain ⟨w1, w2, w3, w4⟩ := wipe_ran n 0 (D := D) (by omega)
  obtain ⟨w5, w6⟩ := w1.on hn
  have w4 := w4 w5
  rw [steps_one, show (wipeS n).q D = wipeQ n 0 D from rfl, if_neg (by omega), steps_one] at hok ⊢
  generalize wipeQ n 0 D = r1 at w1 w2 w3 w4 w5 w6 hok ⊢
  have hml := master_len (master0 n)
  obtain ⟨t1, t2, t3⟩ := write_sem (D := r1.2) (a := 0) (by rw [w2]; omega) hml
  obtain ⟨t5, t6⟩ := t1.on w6
  have v3 := write_view (D := r1.2) (a := 0) (by rw [w2]; omega) hml t5
  rw [show (writeS (master0 n)).q r1.2 = writeQ r1.2 ((0 : Nat) : Int) (masterB (master0 n)) from rfl, if_neg (by omega), steps_one] at hok ⊢
  generalize writeQ r1.2 ((0 : Nat) : Int) (masterB (master0 n)) = r2 at t1 t2 t3 t5 t6 v3 hok ⊢
  obtain ⟨u1, u2⟩ := sync_sem r2.2
  obtain ⟨u5, u6⟩ := u1.on t6
  rw [show syncS.q r2.2 = syncQ r2.2 from rfl, if_neg (by omega), steps_nil] at hok ⊢
  have kl : (syncQ r2.2).2.kept.length = D.kept.length ∧ (syncQ r2.2).2.cache = [] := by
    rcases u2 with ⟨_, h, h'⟩ | ⟨h, _, _⟩
    · exact ⟨by rw [h, setL_len, t2, w2], h'⟩
    · omega
  refine ⟨rfl, u6, kl.1, hok, kl.2, n1, by rw [kl.1]; exact n2, ⟨by show n ≤ 8192; omega, by show (1 : Nat) < _; decide, by show (0 : Nat) < _; decide, by show (0 : Nat) < _; decide⟩, rfl, Nat.le_refl _, by show 1 + 0 ≤ lastLSN; decide, (fun _ h => by cases h), rfl, rfl, Nat.le_refl _, rfl, .inl rfl, Nat.zero_le _, ?_, fun i hi => ?_⟩
  · rw [sync_view (by rw [t2, w2]; omega), v3, if_pos rfl]
  · have hi : i < n := hi
    rw [sync_view (by rw [t2, w2]; omega), v3, if_neg (by omega), w4, if_pos (by omega)]
    exact (sec_zs (Nat.zero_le _)).symm
theorem append_run {D : Dk} {L : Lg} {rs : List Recd} {m : Nat} {r : Recd} (h : Run D L rs m) (hw : wfX r) (he : (encR r).2 = 0) (hr : (encR r).1.length ≤ roomQ L) : Run D (appQ L r).2 (rs ++ [r]) m := by
  have h3 := enc_pos he
  have hmay : mayR r = true := by
    unfold encR at he
    split at he
    · assumption
    · cases he
  have hen : (encR r).1 = encN r := by unfold encR; rw [if_pos hmay]
  rw [hen] at hr h3
  have hap : (appQ L r).2 = { L with stream := L.stream ++ encN r, starts := L.starts ++ [endQ L] } := by
    unfold appQ; rw [if_neg (by omega), if_neg (by rw [hen]; omega), hen]
  have hsl : L.stream.length = lenQ rs := by rw [h.str]; rfl
  have hend : endQ L = L.m.base + lenQ rs := by unfold endQ; rw [hsl]
  have hroom : endQ L + (encN r).length ≤ lastLSN ∧ lenQ rs + (encN r).length ≤ L.m.n * 510 := by
    unfold roomQ at hr
    split at hr
    · omega
    · rw [hsl] at hr; omega
  have hmt : (rs ++ [r]).take m = rs.take m := List.take_append_of_le_length h.few
  rw [hap]
  refine ⟨h.ok, h.cache, h.n1, h.n2, h.mas, h.wip, h.base, ?_, h.right.snoc hmay hw, ?_, ?_, by rw [List.length_append]; have := h.few; omega, by rw [hmt]; exact h.dur, by rw [hmt]; exact h.chk, by rw [len_snoc]; exact hroom.2, h.v0, by rw [hmt]; exact h.vi⟩
  · show L.m.base + (L.stream ++ encN r).length ≤ lastLSN
    rw [List.length_append, hsl]; omega
  · show L.stream ++ encN r = _
    rw [bytes_snoc, h.str]
  · show L.starts ++ [endQ L] = _
    rw [starts_snoc, h.sts, hend]
theorem flush_run {D : Dk} {L : Lg} {rs : List Recd} {m : Nat} (h : Run D L rs m) : Pow D ((flushQ L D).1, (flushQ L D).2.2) ∧ (flushQ L D).2.2.kept.length = D.kept.length ∧ DkOk (flushQ L D).2.2 ∧
    (((flushQ L D).1 = 0 ∧ (flushQ L D).2.1 = { L with durable := endQ L } ∧ Run (flushQ L D).2.2 { L with durable := endQ L } rs rs.length) ∨
     ((flushQ L D).1 = 8 ∧ AInv (flushQ L D).2.2 L.m.n L.m.base L.m.kept rs m none)) := by
  have hsl : L.stream.length = lenQ rs := by rw [h.str]; rfl
  have hend : endQ L = L.m.base + lenQ rs := by unfold endQ; rw [hsl]
  have hlt := len_take_le rs m
  have hdur := h.dur
  have hlen := h.len
  have hn2 := h.n2
  have htl : rs.take rs.length = rs := List.take_length
  have hck : L.m.check = 0 ∨ L.m.check ∈ startsQ L.m.base rs := h.chk.imp id fun x => by rw [starts_take] at x; exact List.mem_of_mem_take x
  have mk : ∀ {D' : Dk}, DkOk D' → D'.cache = [] → D'.kept.length = D.kept.length → V D' 0 = masterB L.m → (∀ i, i < L.m.n → V D' (1 + i) = secB (bytesQ rs) i) → Run D' { L with durable := endQ L } rs rs.length := fun a b c d e =>
    ⟨a, b, h.n1, by rw [c]; exact hn2, h.mas, h.wip, h.base, h.fin, h.right, h.str, h.sts, Nat.le_refl _, by rw [htl]; exact hend, by rw [htl]; exact hck, hlen, d, by rw [htl]; exact e⟩
  unfold flushQ
  by_cases hd : L.durable = endQ L
  · rw [if_pos hd]
    have e1 : { L with durable := endQ L } = L := by rw [← hd]
    have e2 : bytesQ (rs.take m) = bytesQ rs := by
      have := bytes_take rs m
      rw [show lenQ (rs.take m) = lenQ rs by omega] at this
      rw [← this]; exact List.take_length
    refine ⟨⟨.inl rfl, fun hn => ⟨rfl, hn⟩⟩, rfl, h.ok, .inl ⟨rfl, e1.symm, mk h.ok h.cache rfl h.v0 fun i hi => by rw [h.vi i hi, e2]⟩⟩
  rw [if_neg hd]
  have hf0 : firstQ L = lenQ (rs.take m) / 510 := by unfold firstQ; rw [hdur, Nat.add_sub_cancel_left]
  have hsc : secs L.stream = (lenQ rs + 509) / 510 := by unfold secs; rw [hsl]
  rw [hf0, hsc]
  obtain ⟨f0, hf⟩ : ∃ f0, f0 = lenQ (rs.take m) / 510 := ⟨_, rfl⟩
  obtain ⟨sc, hs⟩ : ∃ sc, sc = (lenQ rs + 509) / 510 := ⟨_, rfl⟩
  rw [← hf, ← hs]
  obtain ⟨k1, k2, k3⟩ := fl_ok L.stream (sc - f0) f0 h.ok (by rw [h.cache]; have := h.ok.few; simp only [List.length_nil]; unfold roomMax; omega)
  obtain ⟨w1, w2, w3, w4⟩ := fl_ran L.stream (sc - f0) f0 (D := D) (by omega)
  generalize flQ L.stream (sc - f0) f0 D = r1 at k1 k2 k3 w1 w2 w3 w4 ⊢
  have ain : AInv r1.2 L.m.n L.m.base L.m.kept rs m none := by
    have h0 := h.dead none
    refine ⟨fun s hx => ?_, fun i hi s hx => ?_⟩
    · rcases w3 0 s hx with h | h
      · exact h0.mas s h
      · omega
    · rcases w3 _ s hx with h | ⟨_, _, h⟩
      · exact h0.sec i hi s h
      · rw [Nat.add_sub_cancel_left] at h
        exact ⟨lenQ rs, hlt, Nat.le_refl _, by rw [h, ‹Run D L rs m›.str, List.take_of_length_le (show (bytesQ rs).length ≤ lenQ rs from Nat.le_refl _)]⟩
  by_cases hw : r1.1 = 0
  rotate_left
  · rw [if_pos hw]
    exact ⟨w1, k3, k1, .inr ⟨by rcases w1.err with h | h; exact absurd h hw; exact h.1, ain⟩⟩
  rw [if_neg (by omega)]
  have w4 := w4 hw
  obtain ⟨u1, u2⟩ := sync_sem r1.2
  obtain ⟨o1, _, o3⟩ := sync_ok k1
  by_cases hy : (syncQ r1.2).1 = 0
  rotate_left
  · rw [if_pos hy]
    exact ⟨w1.trans u1, o3.trans k3, o1, .inr ⟨by rcases u1.err with h | h; exact absurd h hy; exact h.1, ⟨fun s hx => ain.mas s (sync_cand hx), fun i hi s hx => ain.sec i hi s (sync_cand hx)⟩⟩⟩
  rw [if_neg (by omega)]
  refine ⟨⟨.inl rfl, fun hn => ⟨rfl, ((w1.trans u1).on hn).2⟩⟩, o3.trans k3, o1, .inl ⟨rfl, rfl, mk o1 ?_ (o3.trans k3) ?_ fun i hi => ?_⟩⟩
  · rcases u2 with ⟨_, _, h⟩ | ⟨h, _, _⟩
    · exact h
    · omega
  · rw [sync_view (by rw [k3]; omega), w4, if_neg (by omega)]; exact h.v0
  · rw [sync_view (by rw [k3]; omega), w4]
    by_cases hi2 : 1 + f0 ≤ 1 + i ∧ 1 + i < 1 + f0 + (sc - f0)
    · rw [if_pos hi2, Nat.add_sub_cancel_left, h.str]
    · rw [if_neg hi2, h.vi i hi]
      apply part_same
      rw [← bytes_take rs m, part_take']
      unfold partB
      by_cases hif : i < f0
      · rw [show min 510 (lenQ (rs.take m) - i * 510) = 510 by omega]
      · have hl0 : (bytesQ rs).drop (i * 510) = [] := List.drop_of_length_le (by show lenQ rs ≤ _; omega)
        rw [hl0]; simp
theorem mark_run {D : Dk} {L : Lg} {rs : List Recd} {m c : Nat} (h : Run D L rs m) (hc : ¬ (c ≠ 0 ∧ (c ∉ L.starts ∨ L.durable ≤ c))) : Pow D ((markQ L c D).1, (markQ L c D).2.2) ∧ (markQ L c D).2.2.kept.length = D.kept.length ∧ DkOk (markQ L c D).2.2 ∧
    (((markQ L c D).1 = 0 ∧ (markQ L c D).2.1 = { L with m := { L.m with check := c } } ∧ Run (markQ L c D).2.2 { L with m := { L.m with check := c } } rs m) ∨
     ((markQ L c D).1 = 8 ∧ AInv (markQ L c D).2.2 L.m.n L.m.base L.m.kept rs m none)) := by
  have hn2 := h.n2
  have hfin := h.fin'
  have hlast : lastLSN < 18446744073709551616 := by decide
  have hckc : c = 0 ∨ c ∈ startsQ L.m.base (rs.take m) := by
    by_cases h0 : c = 0
    · exact .inl h0
    · right
      have h1 : c ∈ L.starts := Decidable.byContradiction fun hx => hc ⟨h0, .inl hx⟩
      have h2 : c < L.durable := by
        rcases Nat.lt_or_ge c L.durable with hx | hx
        · exact hx
        · exact absurd ⟨h0, .inr hx⟩ hc
      rw [h.sts] at h1
      rw [h.dur] at h2
      obtain ⟨j, hj⟩ := List.mem_iff_getElem?.1 h1
      have hjl : j < rs.length := by rw [← starts_len L.m.base rs]; exact (List.getElem?_eq_some_iff.1 hj).1
      have := (starts_below L.m.base rs m j h.right h.few hjl c hj).1 h2
      rw [starts_take]
      exact List.mem_of_getElem? (i := j) (by rw [List.getElem?_take_of_lt this]; exact hj)
  have hcb : c < 18446744073709551616 := by
    rcases hckc with rfl | hx
    · decide
    · have := (starts_rise L.m.base (rs.take m) (h.right.take m)).2.1 c hx
      have := len_take_le rs m
      omega
  have mo : MasOk { L.m with check := c } := ⟨h.mas.n, h.mas.base, hcb, h.mas.kept⟩
  have hml := master_len { L.m with check := c }
  have ha := h.dead none
  have hwip := h.wip
  have hM : masterB { L.m with check := c } = masterB ⟨L.m.n, L.m.base, c, L.m.kept, false⟩ := by rw [← hwip]
  unfold markQ
  rw [if_neg hc]
  have e : stepsQ (markS L.m c) D = stepsQ [writeS { L.m with check := c }, syncS] D := rfl
  obtain ⟨o1, _, o3⟩ := steps_ok (l := markS L.m c) (fun s hs => by
      simp only [markS, List.mem_cons, List.not_mem_nil, or_false] at hs
      rcases hs with rfl | rfl
      · exact writeS_good _
      · exact syncS_good) h.ok (by rw [h.cache]; simp only [markS, sumK, writeS, syncS, List.length_nil]; decide)
  rw [e, steps_one, show (writeS { L.m with check := c }).q D = writeQ D ((0 : Nat) : Int) (masterB { L.m with check := c }) from rfl, steps_one] at o1 o3 ⊢
  obtain ⟨t1, t2, t3⟩ := write_sem (D := D) (a := 0) (by omega) hml
  have ain : AInv (writeQ D ((0 : Nat) : Int) (masterB { L.m with check := c })).2 L.m.n L.m.base L.m.kept rs m none := ⟨fun s hx => by
      rcases write_cand (by omega) hml hx with h | ⟨_, rfl⟩
      · exact ha.mas s h
      · exact .inl ⟨c, hckc, hM⟩, fun i hi s hx => by
      rcases write_cand (by omega) hml hx with h | ⟨h, _⟩
      · exact ha.sec i hi s h
      · omega⟩
  by_cases hx : (writeQ D ((0 : Nat) : Int) (masterB { L.m with check := c })).1 = 0
  rotate_left
  · have e1 : (if (writeQ D ((0 : Nat) : Int) (masterB { L.m with check := c })).1 ≠ 0 then writeQ D ((0 : Nat) : Int) (masterB { L.m with check := c }) else if (syncS.q (writeQ D ((0 : Nat) : Int) (masterB { L.m with check := c })).2).1 ≠ 0 then syncS.q (writeQ D ((0 : Nat) : Int) (masterB { L.m with check := c })).2 else stepsQ [] (syncS.q (writeQ D ((0 : Nat) : Int) (masterB { L.m with check := c })).2).2) = writeQ D ((0 : Nat) : Int) (masterB { L.m with check := c }) := if_pos hx
    rw [e1] at o1 o3 ⊢
    rw [if_pos hx]
    exact ⟨t1, o3, o1, .inr ⟨by rcases t1.err with h | h; exact absurd h hx; exact h.1, ain⟩⟩
  have v3 := write_view (D := D) (a := 0) (by omega) hml hx
  rw [if_neg (show ¬ (writeQ D ((0 : Nat) : Int) (masterB { L.m with check := c })).1 ≠ 0 by omega)] at o1 o3 ⊢
  rw [show syncS.q (writeQ D ((0 : Nat) : Int) (masterB { L.m with check := c })).2 = syncQ (writeQ D ((0 : Nat) : Int) (masterB { L.m with check := c })).2 from rfl] at o1 o3 ⊢
  generalize writeQ D ((0 : Nat) : Int) (masterB { L.m with check := c }) = r1 at t1 t2 t3 ain hx v3 o1 o3 ⊢
  obtain ⟨u1, u2⟩ := sync_sem r1.2
  by_cases hy : (syncQ r1.2).1 = 0
  rotate_left
  · have e1 : (if (syncQ r1.2).1 ≠ 0 then syncQ r1.2 else stepsQ [] (syncQ r1.2).2) = syncQ r1.2 := if_pos hy
    rw [e1] at o1 o3 ⊢
    rw [if_pos hy]
    exact ⟨t1.trans u1, o3, o1, .inr ⟨by rcases u1.err with h | h; exact absurd h hy; exact h.1, ⟨fun s hx => ain.mas s (sync_cand hx), fun i hi s hx => ain.sec i hi s (sync_cand hx)⟩⟩⟩
  rw [if_neg (show ¬ (syncQ r1.2).1 ≠ 0 by omega), steps_nil] at o1 o3 ⊢
  rw [if_neg (fun h => h rfl)]
  refine ⟨⟨.inl rfl, fun hn => ⟨rfl, ((t1.trans u1).on hn).2⟩⟩, o3, o1, .inl ⟨rfl, rfl, o1, ?_, h.n1, by rw [o3]; exact hn2, mo, h.wip, h.base, h.fin, h.right, h.str, h.sts, h.few, h.dur, hckc, h.len, ?_, fun i hi => ?_⟩⟩
  · rcases u2 with ⟨_, _, h⟩ | ⟨h, _, _⟩
    · exact h
    · omega
  · rw [sync_view (by rw [t2]; omega), v3, if_pos rfl]
  · have hi : i < L.m.n := hi
    rw [sync_view (by rw [t2]; omega), v3, if_neg (by omega)]; exact h.vi i hi
end Go.Proofs.YtmcdaegaopfihaaGreat.Wl
end
