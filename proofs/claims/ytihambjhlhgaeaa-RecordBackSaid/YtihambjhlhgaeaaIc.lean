/-
  The law of records' bytes, one's behind the other's, walked. Conditions: each theorem's own.
-/
import Derived.Test.YtihambjhlhgaeaaJA

namespace Go.Proofs.Ytihambjhlhgaeaa.Rc
open Go Go.K Go.Proofs Go.Proofs.Ytihambjhlhgaeaa Go.Proofs.Ytihambjhlhgaeaa.Pg Go.Proofs.Ytihambjhlhgaeaa.Cc Go.Proofs.Ytihambjhlhgaeaa.Rb
set_option linter.unusedVariables false
set_option linter.unusedSimpArgs false
set_option maxRecDepth 10000

theorem may_z0 (r : Recd) : mayR (z0 r) = mayR r := by
  unfold mayR
  congr 1
  rw [decide_eq_decide]
  constructor
  · rintro ⟨a, b, c⟩
    exact ⟨a, ⟨b.txn, b.prev, b.undo, b.op, b.check, b.shape⟩, c⟩
  · rintro ⟨a, b, c⟩
    exact ⟨a, bareP_z0 b, c⟩
theorem wfX_z0 {r : Recd} (h : wfX r) : wfX (z0 r) := ⟨⟨h.1.kind, (by decide : (0 : Nat) < 18446744073709551616), h.1.txn, h.1.prev, h.1.undo, h.1.page, h.1.root, h.1.op, h.1.next, h.1.images, h.1.lives, h.1.dirty, h.1.live, h.1.dirt⟩, h.2⟩
theorem hdN_enc {r : Recd} (h : mayR r = true) (rest : List UInt8) : hdN (encN r ++ rest) = (encN r).length := by
  have h2 := (may_okR h).2
  unfold hdN
  rw [List.take_append_of_le_length (by have := encN_len h; omega)]
  have hl : (encN r).length = (bodyN r).length + 2 := by unfold encN; rw [List.length_append, lebs_length]; omega
  rw [hl]
  unfold encN
  rw [List.take_append_of_le_length (by rw [lebs_length]; omega), List.take_of_length_le (by rw [lebs_length]; omega)]
  exact leNum_lebs 2 _ (by omega)
/-- What begins with a record's bytes is read as the record. -/
theorem dec_enc {r : Recd} (h : mayR r = true) (w : wfX r) (rest : List UInt8) : Dec (encN r ++ rest) (z0 r) (encN r).length 0 := by
  have hn := encN_len h
  have hd := hdN_enc h rest
  refine .inr (.inr (.inr (.inr ⟨by rw [List.length_append]; omega, by rw [hd]; omega, by rw [hd, List.length_append]; omega, ⟨by rw [may_z0]; exact h, rfl, wfX_z0 w⟩, ?_, hd.symm, rfl⟩)))
  rw [hd, List.take_left, body_lsn]
  unfold encN
  rw [List.drop_append_of_le_length (by rw [lebs_length]; omega), List.drop_of_length_le (by rw [lebs_length]; omega), List.nil_append]
structure P1S where
  j : Nat
  a : Option Nat
  cap : Nat
  bs : List UInt8
  a2 : Option Nat
  cap2 : Nat
  fs : List (List Value)
structure P2S where
  b : Base
  i : Nat
  v : Value
theorem RecC.fifteen {h : Base} {c : List Value} {r : Recd} (hx : RecC h c r) : c.length = 15 := by
  obtain ⟨_, _, _, _, _, _, _, _, _, e, _⟩ := hx.cells
  rw [e]; rfl
theorem filt_at {l : List Recd} {j : Nat} {x : Recd} (h : l[j]? = some x) : (l.take (j + 1)).filter mayR = (l.take j).filter mayR ++ if mayR x = true then [x] else [] := by
  rw [List.take_add_one, h, List.filter_append]
  congr 1
  cases hm : mayR x <;> simp [hm]
set_option maxHeartbeats 4000000 in
theorem RecordPartsW (h : Base) (v : Value) (es : List (List Value)) (l : List Recd) (hx : SL h 15 v es ∧ es.length = l.length ∧ l.length ≤ 9223372036854775807 ∧ ∀ (j : Nat) c o, es[j]? = some c → l[j]? = some o → RecC h c o) : Tr Try.prog 6 [v] h [] (fun u h' H' => u = .bool true ∧ H' = []) := by
  obtain ⟨hv, hel, hlm, hr⟩ := hx
  have hlongs := RLongs h v es l hv hel hlm hr
  obtain ⟨ao, ca, rfl⟩ := hv.len
  rw [hel] at hv hlongs ⊢
  refine K.enter Try.func6 rfl (Nat.le_of_ble_eq_true rfl) (fun F => ?_)
  simp only [List.nil_append]
  (repeat' (first | refine X.rq ?_ | (refine X.rc ?_ ?_ <;> intro hc <;> first | (exfalso; omega) | skip)))
  refine K.l_call (Fx.cal rfl) rfl hlongs (K.pp [] rfl) rfl ?_
  rintro u h' H' - ⟨e, rfl, b1, rfl, hb1⟩
  obtain rfl := e.symm
  simp only [List.nil_append]
  cases b1 with
  | true =>
    (repeat' (first | refine X.rq ?_ | (refine X.rc ?_ ?_ <;> intro hc <;> first | (exfalso; omega) | skip)))
    refine K.l_callV (Fx.cal rfl) rfl (Alive h) (K.pp [] rfl) rfl rfl ?_
    simp only [List.nil_append]
    (repeat' (first | refine X.rq ?_ | (refine X.rc ?_ ?_ <;> intro hc <;> first | (exfalso; omega) | skip)))
    refine K.done (by first | exact Or.inl rfl | exact Or.inr rfl) rfl (by first | exact K.Base.le.refl _ | assumption) (H' := []) rfl ⟨rfl, rfl⟩
  | false =>
    obtain ⟨hl3, hs⟩ := hb1 rfl
    have hs := fun (_ : Unit) => hs
    clear hb1 hlongs
    (repeat' (first | refine X.rq ?_ | (refine X.rc ?_ ?_ <;> intro hc <;> first | (exfalso; omega) | skip)))
    refine K.WC.nilBuf 31 15 ?_
    refine K.WC.nilBuf 5 1 ?_
    refine K.c_loop (σ := P1S) (fun q => [(0, .slice ao l.length ca), (3, bufV q.a q.bs.length q.cap), (4, bufV q.a2 q.fs.length q.cap2), (5, .int .i64 q.j)]) (fun q => h)
      (fun q => bufA 5 1 q.a q.bs.length q.cap (q.bs.map u8) :: bufA 31 15 q.a2 q.fs.length q.cap2 q.fs.flatten :: F)
      (fun q => q.j ≤ l.length ∧ q.bs = ((l.take q.j).filter mayR).flatMap encN ∧ RowsG (RecC h) q.fs ((l.take q.j).filter mayR)) (fun q => l.length - q.j) ⟨0, none, 0, [], none, 0, []⟩ ⟨Nat.zero_le _, by simp, RowsG.nil⟩ (by repeat (first | exact K.Sub.nil _ | refine K.Sub.cons rfl ?_)) rfl rfl ?_
    rintro ⟨j, a, cap, bs, a2, cap2, fs⟩ ⟨hj, hbs, hrow⟩ KL hKL
    dsimp only at hj hbs hrow ⊢
    have hfl : fs.length ≤ 300 := by
      rw [hrow.1]
      have := List.length_filter_le mayR (l.take j)
      rw [List.length_take] at this
      omega
    have hbl : bs.length ≤ 4915200 := by
      have h1 := flat_len encN 16384 ((l.take j).filter mayR) (fun x hx => (encN_len (List.mem_filter.1 hx).2).2)
      rw [← hbs, ← hrow.1] at h1
      have h2 : fs.length * 16384 ≤ 4915200 := by omega
      omega
    by_cases hjl : j < l.length
    · have hc1 : es[j]? = some (es[j]'(by omega)) := List.getElem?_eq_getElem (by omega)
      have hc0 : es[((j : Nat) : Int).toNat]? = some (es[j]'(by omega)) := by rw [Int.toNat_natCast]; exact hc1
      have he1 : l[j]? = some (l[j]'(by omega)) := List.getElem?_eq_getElem hjl
      have hmem : l[j] ∈ l := List.getElem_mem hjl
      generalize es[j]'(by omega) = c at hc0 hc1
      generalize l[j]'(by omega) = x at he1 hmem
      have hxc := hr j c x hc1 he1
      have hxc0 := hxc
      have hsx := hs () x hmem
      have hcl := hxc.fifteen
      have henc := RecEncode h c x hxc hsx.small
      have hat := filt_at he1
      have hon : ones c = true := by
        obtain ⟨_, _, _, _, _, _, _, _, _, e, _⟩ := hxc.cells
        rw [e]; rfl
      clear hxc hsx
      (repeat' (first | refine X.rq ?_ | (refine X.rc ?_ ?_ <;> intro hc <;> first | (exfalso; omega) | skip)))
      refine K.s_pureE (K.p_indexL hv (Fx.und rfl) (Fx.sz rfl) rfl rfl (by omega) hc0) rfl ?_
      rintro v2 ⟨b, o, rfl, hcel⟩
      refine K.s_pure (K.p_loadM (Fx.agg rfl) rfl (Cels.up hcel) (Fx.sz rfl) hcl) rfl ?_
      refine K.l_call (Fx.cal rfl) rfl henc (K.pp [] rfl) rfl ?_
      rintro u h' H' - ⟨e, a3, c3, rfl, rfl⟩
      obtain rfl := e.symm
      simp only [List.cons_append, List.nil_append]
      cases hm : mayR x with
      | false =>
        rw [hm, if_neg (by decide), List.append_nil] at hat
        rw [encR_no hm]
        (repeat' (first | refine X.rq ?_ | (refine X.rc ?_ ?_ <;> intro hc <;> first | (exfalso; omega) | skip)))
        refine K.AT.drop ?_
        refine K.a_round hKL ⟨j + 1, a, cap, bs, a2, cap2, fs⟩ ⟨by dsimp only; omega, by dsimp only; rw [hat]; exact hbs, by dsimp only; rw [hat]; exact hrow⟩ (by repeat (first | exact K.Sub.nil _ | refine K.Sub.cons rfl ?_)) rfl rfl (by dsimp only; omega)
      | true =>
        have hn := encN_len hm
        rw [hm, if_pos rfl] at hat
        rw [encR_yes hm]
        dsimp only
        (repeat' (first | refine X.rq ?_ | (refine X.rc ?_ ?_ <;> intro hc <;> first | (exfalso; omega) | skip)))
        refine K.l_append_at 1 rfl (Fx.und rfl) (Fx.und rfl) rfl (Fx.sz rfl) (Fx.zr rfl) rfl (Fx.byt rfl) rfl rfl (K.src_buf 0 rfl (fun u hu => by obtain ⟨c, _, rfl⟩ := List.mem_map.1 hu; rfl) (by simp)) (by omega) (by omega) rfl (fun a4 cap4 => ?_)
        simp only [List.set_cons_zero, List.set_cons_succ, List.eraseIdx_cons_zero, List.eraseIdx_cons_succ, List.cons_append, List.nil_append]
        refine K.WL.drop ?_
        rw [← List.map_append, ← List.length_append]
        (repeat' (first | refine X.rq ?_ | (refine X.rc ?_ ?_ <;> intro hc <;> first | (exfalso; omega) | skip)))
        refine K.s_pureE (K.p_indexL hv (Fx.und rfl) (Fx.sz rfl) rfl rfl (by omega) hc0) rfl ?_
        rintro v3 ⟨b3, o3, rfl, hcel3⟩
        refine K.s_pure (K.p_loadM (Fx.agg rfl) rfl (Cels.up hcel3) (Fx.sz rfl) hcl) rfl ?_
        refine K.l_buildSlice (Fx.und rfl) (Fx.sz rfl) rfl (Fx.zr rfl) rfl rfl (by show (Nat.beq 0 0 && Nat.beq c.length 15 && true) = true; rw [hcl]; rfl) (cs := c) (List.append_nil _) rfl (fun B6 => ?_)
        refine K.l_append_at 2 rfl (Fx.und rfl) (Fx.und rfl) rfl (Fx.sz rfl) (Fx.zr rfl) rfl (Fx.byt rfl) rfl rfl (K.src_cells (m := 1) (K.cels_own (pre := []) (cs := c) (post := []) 0 (by rw [List.nil_append, List.append_nil]; rfl) rfl) hcl (List.all_eq_true.1 hon)) (by omega) (by omega) rfl (fun a6 cap6 => ?_)
        simp only [List.set_cons_zero, List.set_cons_succ, List.eraseIdx_cons_zero, List.eraseIdx_cons_succ, List.cons_append, List.nil_append]
        refine K.WL.drop ?_
        have hfl2 : (fs ++ [c]).length = fs.length + 1 := by simp
        have hff : (fs ++ [c]).flatten = fs.flatten ++ c := by simp
        rw [← hfl2, ← hff]
        (repeat' (first | refine X.rq ?_ | (refine X.rc ?_ ?_ <;> intro hc <;> first | (exfalso; omega) | skip)))
        refine K.a_round hKL ⟨j + 1, a4, cap4, bs ++ encN x, a6, cap6, fs ++ [c]⟩ ⟨by dsimp only; omega, by dsimp only; rw [hat, List.flatMap_append, ← hbs]; simp, by dsimp only; rw [hat]; exact hrow.push hxc0⟩ (by repeat (first | exact K.Sub.nil _ | refine K.Sub.cons rfl ?_)) rfl rfl (by dsimp only; omega)
    · obtain rfl : j = l.length := by omega
      rw [List.take_length] at hbs hrow
      have hwf : ∀ _ : Unit, ∀ x ∈ l, wfX x := fun _ x hx => by
        obtain ⟨i, hi, rfl⟩ := List.mem_iff_getElem.1 hx
        exact (hr i _ _ (List.getElem?_eq_getElem (by omega)) (List.getElem?_eq_getElem hi)).wfX
      have hml : ∀ _ : Unit, ∀ x, x ∈ l.filter mayR → x ∈ l ∧ mayR x = true := fun _ x hx => List.mem_filter.1 hx
      clear hs hr
      generalize hme : l.filter mayR = ml at hbs hrow hml
      subst hbs
      (repeat' (first | refine X.rq ?_ | (refine X.rc ?_ ?_ <;> intro hc <;> first | (exfalso; omega) | skip)))
      refine K.WC.freezeBuf (fun h1 le1 hbv => ?_)
      refine K.WC.freezeRow (hrow.sz fun c x hc => hc.fifteen) (fun h2 le2 hsl _ => ?_)
      have hle := le1.trans le2
      have hbv := hbv.le le2
      have hrl := hrow.1
      obtain ⟨vb, evb⟩ : ∃ v, v = bufV a (ml.flatMap encN).length cap := ⟨_, rfl⟩
      rw [← evb] at hbv ⊢
      clear evb
      obtain ⟨ao5, ca5, e5⟩ := hsl.len
      rw [e5] at hsl ⊢
      clear e5
      (repeat' (first | refine X.rq ?_ | (refine X.rc ?_ ?_ <;> intro hc <;> first | (exfalso; omega) | skip)))
      refine K.c_loop (σ := P2S) (fun q => [(3, q.v), (4, .slice ao5 fs.length ca5), (8, .int .i64 q.i)]) (fun q => q.b) (fun q => F)
        (fun q => h2.le q.b ∧ q.i ≤ ml.length ∧ BV q.b q.v ((ml.drop q.i).flatMap encN)) (fun q => ml.length - q.i) ⟨h2, 0, vb⟩ ⟨K.Base.le.refl _, Nat.zero_le _, by simpa using hbv⟩ (by repeat (first | exact K.Sub.nil _ | refine K.Sub.cons rfl ?_)) rfl rfl ?_
      clear hbv
      rintro ⟨h3, i, w⟩ ⟨le3, hi, hbw⟩ KM hKM
      dsimp only at le3 hi hbw ⊢
      have hrem : ((ml.drop i).flatMap encN).length ≤ 4915200 := by
        have h1 := flat_len encN 16384 (ml.drop i) (fun x hx => (encN_len (hml () x (List.mem_of_mem_drop hx)).2).2)
        have h2 : (ml.drop i).length * 16384 ≤ 4915200 := by rw [List.length_drop]; omega
        omega
      obtain ⟨ao6, ca6, rfl⟩ := hbw.len
      by_cases hil : i < ml.length
      · have hc1 : fs[i]? = some (fs[i]'(by omega)) := List.getElem?_eq_getElem (by omega)
        have hc0 : fs[((i : Nat) : Int).toNat]? = some (fs[i]'(by omega)) := by rw [Int.toNat_natCast]; exact hc1
        have he1 : ml[i]? = some (ml[i]'(by omega)) := List.getElem?_eq_getElem hil
        have hdr : ml.drop i = ml[i] :: ml.drop (i + 1) := List.drop_eq_getElem_cons hil
        have hmem : ml[i] ∈ ml := List.getElem_mem hil
        generalize fs[i]'(by omega) = c at hc0 hc1
        generalize ml[i]'(by omega) = x at he1 hmem hdr
        have hxc := ((hrow.2 i c x hc1 he1).le hle).le le3
        have hcl := hxc.fifteen
        have hm := (hml () x hmem).2
        have hn := encN_len hm
        have hdx := dec_enc hm (hwf () x (hml () x hmem).1) ((ml.drop (i + 1)).flatMap encN)
        rw [hdr, List.flatMap_cons] at hbw hrem ⊢
        obtain ⟨rest, hrest⟩ : ∃ x, x = (ml.drop (i + 1)).flatMap encN := ⟨_, rfl⟩
        rw [← hrest] at hbw hrem hdx ⊢
        have hdc := RecDecode h3 _ _ hbw (by omega)
        rw [List.length_append] at hrem
        clear hdr hml hwf hrow
        (repeat' (first | refine X.rq ?_ | (refine X.rc ?_ ?_ <;> intro hc <;> first | (exfalso; omega) | skip)))
        refine K.l_call (Fx.cal rfl) rfl hdc (K.pp [] rfl) rfl ?_
        rintro u h4 H' le4 ⟨rfl, cs4, r4, n4, e4, rfl, hrc4, hs4, hl4, hd4⟩
        obtain ⟨rfl, rfl, rfl⟩ := dec_one hd4 hdx
        have hsame := SameR h4 _ _ (z0 x) x hrc4 (hxc.le le4)
        rw [show decide (z0 (z0 x) = z0 x) = true from decide_eq_true rfl] at hsame
        obtain ⟨_, bd, bi, bl, by_, dd, di, dl, dy, rfl, _⟩ := hrc4.cells
        simp only [List.nil_append]
        have hsl4 := (hsl.le le3).le le4
        have hbw4 := hbw.le le4
        clear hd4 hdx hdc hs4
        (repeat' (first | refine X.rq ?_ | (refine X.rc ?_ ?_ <;> intro hc <;> first | (exfalso; omega) | skip)))
        refine K.l_alloc (Fx.zr rfl) rfl rfl (fun B9 => ?_)
        refine X.stw ?_
        simp only [List.set_cons_zero, List.set_cons_succ, List.eraseIdx_cons_zero, List.eraseIdx_cons_succ, List.cons_append, List.nil_append]
        (repeat' (first | refine X.rq ?_ | (refine X.rc ?_ ?_ <;> intro hc <;> first | (exfalso; omega) | skip)))
        refine X.draw ([blk B9 31 (cR (z0 x) (.slice bd (z0 x).op.data.length dd) (.slice bi (z0 x).images.length di) (.slice bl (z0 x).lives.length dl) (.slice by_ (z0 x).dirty.length dy))]) [] (.pu 0 (.pu 1 (.pu 2 (.pu 3 (.pu 4 (.pu 5 (.pu 6 (.pu 7 (.pu 8 (.pu 9 (.pu 10 (.pu 11 (.pu 12 (.pu 14 (.pu 15 (.st 13 (.st 16 (.st 17 (.on 18 (.pu 19 (.pu 20 .nil))))))))))))))))))))) ?_
        refine K.d_pu rfl (fun _ _ => X.mv) rfl ?_
        refine K.d_pu rfl (fun _ _ => X.bneq) rfl ?_
        refine K.d_pu rfl (fun _ _ => X.mv) rfl ?_
        first | refine K.d_skip rfl rfl rfl rfl ?_ | refine K.d_skipU rfl rfl rfl rfl rfl ?_ | refine K.d_puG rfl rfl rfl (fun _ _ => X.mv) rfl ?_
        first | refine K.d_skip rfl rfl rfl rfl ?_ | refine K.d_skipU rfl rfl rfl rfl rfl ?_ | refine K.d_puG rfl rfl rfl (fun _ _ => X.blss) rfl ?_
        rw [show decide (((encN x).length : Int) < 3) = false from decide_eq_false (by omega)]
        refine K.d_pu rfl (fun _ _ => X.pk) rfl ?_
        refine K.d_pu rfl (fun _ _ => X.mv) rfl ?_
        first | refine K.d_skip rfl rfl rfl rfl ?_ | refine K.d_skipU rfl rfl rfl rfl rfl ?_ | refine K.d_puG rfl rfl rfl (fun _ _ => X.mv) rfl ?_
        first | refine K.d_skip rfl rfl rfl rfl ?_ | refine K.d_skipU rfl rfl rfl rfl rfl ?_ | refine K.d_puG rfl rfl rfl (fun _ _ => X.mv) rfl ?_
        first | refine K.d_skip rfl rfl rfl rfl ?_ | refine K.d_skipU rfl rfl rfl rfl rfl ?_ | refine K.d_puG rfl rfl rfl (fun _ _ => X.len) rfl ?_
        first | refine K.d_skip rfl rfl rfl rfl ?_ | refine K.d_skipU rfl rfl rfl rfl rfl ?_ | refine K.d_puG rfl rfl rfl (fun _ _ => X.bgtr) rfl ?_
        rw [show decide (((encN x ++ rest).length : Int) < ((encN x).length : Int)) = false from decide_eq_false (by rw [List.length_append]; omega)]
        refine K.d_pu rfl (fun _ _ => X.pk) rfl ?_
        refine K.d_pu rfl (fun _ _ => X.mv) rfl ?_
        first | refine K.d_skip rfl rfl rfl rfl ?_ | refine K.d_skipU rfl rfl rfl rfl rfl ?_ | refine K.d_puG rfl rfl rfl (fun _ _ => X.mv) rfl ?_
        first | refine K.d_skip rfl rfl rfl rfl ?_ | refine K.d_skipU rfl rfl rfl rfl rfl ?_ | refine K.d_puG rfl rfl rfl (fun _ _ => X.mv) rfl ?_
        first | refine K.d_skipS rfl rfl rfl rfl ?_ | refine K.d_skipUS rfl rfl rfl rfl rfl ?_ | refine K.d_stG rfl rfl rfl X.ld rfl ?_
        refine K.d_stGE rfl rfl rfl (K.p_indexL hsl4 (Fx.und rfl) (Fx.sz rfl) rfl rfl (by omega) hc0) rfl ?_
        rintro v6 ⟨b6, o6, rfl, hcel6⟩
        refine K.d_stG rfl rfl rfl (K.p_loadM (Fx.agg rfl) rfl (Cels.up hcel6) (Fx.sz rfl) hcl) rfl ?_
        refine K.d_on rfl (fun KK hKK => ?_)
        refine K.s_take rfl rfl ?_
        refine K.l_callV (Fx.cal rfl) rfl hsame (K.pp [] rfl) rfl rfl ?_
        simp only [List.nil_append]
        refine K.l_nil ?_
        refine X.onE hKK ?_
        first | refine K.d_skip rfl rfl rfl rfl ?_ | refine K.d_skipU rfl rfl rfl rfl rfl ?_ | refine K.d_puG rfl rfl rfl (fun _ _ => X.nt) rfl ?_
        refine K.d_pu rfl (fun _ _ => X.pk) rfl ?_
        refine K.d_nil ?_
        (repeat' (first | refine X.rq ?_ | (refine X.rc ?_ ?_ <;> intro hc <;> first | (exfalso; omega) | skip)))
        refine K.s_pureE (K.p_sliceB (k1 := .i64) (k2 := .i64) (p := (encN x).length) (q := (encN x ++ rest).length) hbw4 (Fx.und rfl) (Fx.sz rfl) rfl ⟨_, rfl, rfl⟩ rfl (by rw [List.length_append]; omega) (Nat.le_refl _)) rfl ?_
        intro v7 hb7
        rw [List.take_length, List.drop_left, hrest] at hb7
        (repeat' (first | refine X.rq ?_ | (refine X.rc ?_ ?_ <;> intro hc <;> first | (exfalso; omega) | skip)))
        refine K.AT.drop ?_
        refine K.a_round hKM ⟨h4, i + 1, v7⟩ ⟨le3.trans le4, by dsimp only; omega, hb7⟩ (by repeat (first | exact K.Sub.nil _ | refine K.Sub.cons rfl ?_)) rfl rfl (by dsimp only; omega)
      · obtain rfl : i = ml.length := by omega
        rw [List.drop_length]
        (repeat' (first | refine X.rq ?_ | (refine X.rc ?_ ?_ <;> intro hc <;> first | (exfalso; omega) | skip)))
        refine K.l_callV (Fx.cal rfl) rfl (Alive h3) (K.pp [] rfl) rfl rfl ?_
        simp only [List.nil_append]
        (repeat' (first | refine X.rq ?_ | (refine X.rc ?_ ?_ <;> intro hc <;> first | (exfalso; omega) | skip)))
        refine K.done (by first | exact Or.inl rfl | exact Or.inr rfl) rfl (hle.trans le3) (H' := []) rfl ⟨rfl, rfl⟩
end Go.Proofs.Ytihambjhlhgaeaa.Rc
