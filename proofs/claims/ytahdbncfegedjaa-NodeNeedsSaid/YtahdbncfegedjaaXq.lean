/-
  Trees of pages: a page divided, the code's walk. Conditions: each theorem's own.
-/
import Derived.Test.YtahdbncfegedjaaXp

namespace Go.Proofs.Ytahdbncfegedjaa.Nd
open Go Go.K Go.Proofs Go.Proofs.Ytahdbncfegedjaa Go.Proofs.Ytahdbncfegedjaa.Pg
set_option linter.unusedVariables false
set_option linter.unusedSimpArgs false
set_option maxRecDepth 10000

def RowsI (h : Base) (rows : List (List Value)) (l : List PImg) : Prop := rows.length = l.length ∧ (∀ e ∈ rows, e.length = 5) ∧ ∀ (j : Nat) c x, rows[j]? = some c → l[j]? = some x → ImgC h c x
theorem RowsI.le {h h' : Base} {rows : List (List Value)} {l : List PImg} (hr : RowsI h rows l) (hle : h.le h') : RowsI h' rows l := ⟨hr.1, hr.2.1, fun j c x a b => (hr.2.2 j c x a b).le hle⟩
theorem RowsI.snoc {h : Base} {rows : List (List Value)} {l : List PImg} {n : Nat} {p : Pag} {cv : Value} (hr : RowsI h rows l) (hn : n < 4294967296) (hp : PagC h (cP p cv) p) : RowsI h (rows ++ [uV n :: cP p cv]) (l ++ [⟨n, p⟩]) := by
  obtain ⟨h1, h2, h3⟩ := hr
  refine ⟨by simp [h1], fun e he => ?_, fun j c x hj hx => ?_⟩
  · rcases List.mem_append.1 he with he | he
    · exact h2 e he
    · rw [List.mem_singleton.1 he]; rfl
  · by_cases hjl : j < l.length
    · rw [List.getElem?_append_left (by omega)] at hj
      rw [List.getElem?_append_left hjl] at hx
      exact h3 j c x hj hx
    · have hj2 : j = l.length := by
        have := (List.getElem?_eq_some_iff.1 hx).1
        simp at this; omega
      subst hj2
      rw [List.getElem?_append_right (by omega), h1, Nat.sub_self] at hj
      rw [List.getElem?_append_right (by omega), Nat.sub_self] at hx
      cases hj; cases hx
      exact ⟨hn, _, rfl, hp⟩
structure DvS where
  hb : Base
  lv : Value
  rv : Value
set_option maxHeartbeats 2000000 in
theorem Divide (h : Base) (Bw n : Nat) (p : Pag) (v : Value) (cc : List Value) (c : PCell) (root : Bool) (a : Option Nat) (cap : Nat) (rows : List (List Value)) (imgs : List PImg) (fv : Value) (fs : List Nat) (cnt : Nat)
    (hp : PagC h (cP p v) p) (hc : CellC h cc c) (hd : DivOk p c) (hn : n < 4294967296) (hr : RowsI h rows imgs) (hrl : rows.length ≤ 1000) (hf : U32s h fv fs) (hfl : fs.length ≤ 1000) (hcn : cnt ≤ 1000) :
    Tr Try.prog 67 [.pointer (some ⟨Bw, 0, none⟩), uV n, .agg (cP p v).toArray, .agg cc.toArray, .bool root] h [blk Bw 81 (wkV (bufV a rows.length cap) fv cnt), bufA 58 5 a rows.length cap rows.flatten]
      (fun u h' H' => ∃ a' cap' rows' fv' cs', u = .agg cs'.toArray ∧ CellC h' cs' (upQ (entQ p c) (frQ root fs)) ∧ U32s h' fv' (fs1 root fs).tail ∧ RowsI h' rows' (imgs ++ divI n p c root fs) ∧
        H' = [blk Bw 81 (wkV (bufV a' rows'.length cap') fv' (cnt + if root then 2 else 1)), bufA 58 5 a' rows'.length cap' rows'.flatten]) := by
  have hp0 := hp
  have hc0 := hc
  obtain ⟨hw, v', e, hcv⟩ := hp
  obtain rfl : v = v' := by simpa [cP] using e
  clear e
  have hcv0 := hcv
  obtain ⟨es, hs, hel, hcs⟩ := hcv
  obtain ⟨ao, ca, rfl⟩ := hs.len
  rw [hel] at hs hp0 hcv0 ⊢
  obtain ⟨hk2, hd2, ao4, ca4, rfl, hb2⟩ := hc
  have hl60 := hd.len
  have hrow := row_len p c
  have hhf := (hf_lt (p := p) (c := c)).1
  refine K.enter Try.func67 rfl (Nat.le_of_ble_eq_true rfl) (fun F => ?_)
  simp only [List.cons_append, List.nil_append]
  (repeat' (first | refine X.rq ?_ | (refine X.rc ?_ ?_ <;> intro hc <;> first | (exfalso; omega) | skip)))
  refine K.l_box rfl rfl rfl (fun B7 => ?_)
  refine K.l_box rfl rfl rfl (fun B8 => ?_)
  refine K.l_alloc (Fx.zr rfl) rfl rfl (fun B10 => ?_)
  (repeat' (first | refine X.rq ?_ | (refine X.rc ?_ ?_ <;> intro hc <;> first | (exfalso; omega) | skip)))
  refine K.l_call (Fx.cal rfl) rfl (InsertN h p.kind _ p.cells _ c hcv0 hc0 hd.pos (by omega) hd.big hd.cbig) (K.pp [] rfl) rfl ?_
  rintro u h1 H' hle1 ⟨rfl, rv, rfl, hrv⟩
  have hrv2 := CellsV.row hrv
  obtain ⟨er, hsr, hrr⟩ := hrv2
  obtain ⟨ar, car, rfl⟩ := hsr.len
  have hrl2 : er.length = p.cells.length + 1 := by rw [hrr.1]; exact hrow
  rw [hrl2] at hsr hrv ⊢
  simp only [List.set_cons_zero, List.set_cons_succ, List.eraseIdx_cons_zero, List.eraseIdx_cons_succ, List.cons_append, List.nil_append]
  (repeat' (first | refine X.rq ?_ | (refine X.rc ?_ ?_ <;> intro hc <;> first | (exfalso; omega) | skip)))
  refine K.l_callV (Fx.cal rfl) rfl (Half h1 p.kind _ (rowQ p c) hrv (row_small hd) (by have := hd.pos; omega)) (K.pp [] rfl) rfl rfl ?_
  simp only [List.set_cons_zero, List.set_cons_succ, List.eraseIdx_cons_zero, List.eraseIdx_cons_succ, List.cons_append, List.nil_append]
  have ehf : halfQ p.kind (rowQ p c) = hfQ p c := rfl
  rw [ehf]
  have epos : atQ p.kind p.cells c = posQ p c := rfl
  rw [epos]
  (repeat' (first | refine X.rq ?_ | (refine X.rc ?_ ?_ <;> intro hc <;> first | (exfalso; omega) | skip)))
  refine K.WC.sel [1] rfl ?_
  refine X.drawJ ([blk B7 55 (cP p (.slice ao p.cells.length ca))]) [] (.pu 1 (.pu 3 (.st 0 (.st 2 (.st 4 (.pu 5 (.alt 6 (.on 7 (.on 8 (.on 9 .nil))) (.on 7 (.on 6 (.on 8 (.on 9 .nil))))))))))) (fun r : Nat × Nat => [(0, .pointer (some ⟨Bw, 0, none⟩)), (1, uV n), (4, .bool root), (7, .pointer (some ⟨B7, 0, none⟩)), (10, .pointer (some ⟨B10, 0, none⟩)), (11, .slice ar (p.cells.length + 1) car), (12, .int .i64 (posQ p c)), (13, .int .i64 (hfQ p c)), (14, .pointer (some ⟨r.1, 0, none⟩)), (15, .pointer (some ⟨r.2, 0, none⟩))]) (fun _ => h1) (fun r => blk r.1 55 (cP p (.slice ao p.cells.length ca)) :: blk r.2 55 (cP ⟨p.kind, 0, p.next, []⟩ (.slice none 0 0)) :: blk B10 52 [.bool false, .int .u32 0, .slice none 0 0] :: blk B7 55 (cP p (.slice ao p.cells.length ca)) :: blk Bw 81 (wkV (bufV a rows.length cap) fv cnt) :: bufA 58 5 a rows.length cap rows.flatten :: F) ?_ ?_
  · refine K.d_pu rfl (fun _ _ => X.fa) rfl ?_
    refine K.d_pu rfl (fun _ _ => X.fa) rfl ?_
    refine K.d_st rfl X.ld rfl ?_
    refine K.d_st rfl X.ld rfl ?_
    refine K.d_st rfl X.ld rfl ?_
    refine K.d_pu rfl (fun _ _ => X.bd) rfl ?_
    refine K.d_alt ?_ ?_
    · refine K.d_on rfl (fun KK hKK => ?_)
      refine K.l_alloc (Fx.zr rfl) rfl rfl (fun B14 => ?_)
      refine K.l_nil ?_
      refine X.onE hKK ?_
      refine K.d_on rfl (fun KK hKK => ?_)
      refine K.l_alloc (Fx.zr rfl) rfl rfl (fun B15 => ?_)
      refine K.l_nil ?_
      refine X.onE hKK ?_
      refine K.d_on rfl (fun KK hKK => ?_)
      refine X.stw ?_
      simp only [List.set_cons_zero, List.set_cons_succ, List.eraseIdx_cons_zero, List.eraseIdx_cons_succ, List.cons_append, List.nil_append]
      refine K.l_nil ?_
      refine X.onE hKK ?_
      refine K.d_on rfl (fun KK hKK => ?_)
      refine X.stw ?_
      simp only [List.set_cons_zero, List.set_cons_succ, List.eraseIdx_cons_zero, List.eraseIdx_cons_succ, List.cons_append, List.nil_append]
      refine K.l_nil ?_
      refine X.onE hKK ?_
      refine K.d_nil ?_
      have hz0 : True := trivial
      first | exact K.joined (B14, B15) (by repeat (first | exact K.Sub.nil _ | refine K.Sub.cons rfl ?_)) rfl rfl | (refine K.AT.perm (K.pp [1] rfl) ?_; exact K.joined (B14, B15) (by repeat (first | exact K.Sub.nil _ | refine K.Sub.cons rfl ?_)) rfl rfl)
    refine K.d_on rfl (fun KK hKK => ?_)
    refine K.l_alloc (Fx.zr rfl) rfl rfl (fun B15 => ?_)
    refine K.l_nil ?_
    refine X.onE hKK ?_
    refine K.d_on rfl (fun KK hKK => ?_)
    refine K.l_alloc (Fx.zr rfl) rfl rfl (fun B14 => ?_)
    refine K.l_nil ?_
    refine X.onE hKK ?_
    refine K.d_on rfl (fun KK hKK => ?_)
    refine X.stw ?_
    simp only [List.set_cons_zero, List.set_cons_succ, List.eraseIdx_cons_zero, List.eraseIdx_cons_succ, List.cons_append, List.nil_append]
    refine K.l_nil ?_
    refine X.onE hKK ?_
    refine K.d_on rfl (fun KK hKK => ?_)
    refine X.stw ?_
    simp only [List.set_cons_zero, List.set_cons_succ, List.eraseIdx_cons_zero, List.eraseIdx_cons_succ, List.cons_append, List.nil_append]
    refine K.l_nil ?_
    refine X.onE hKK ?_
    refine K.d_nil ?_
    have hz0 : True := trivial
    first | exact K.joined (B14, B15) (by repeat (first | exact K.Sub.nil _ | refine K.Sub.cons rfl ?_)) rfl rfl | (refine K.AT.perm (K.pp [1] rfl) ?_; exact K.joined (B14, B15) (by repeat (first | exact K.Sub.nil _ | refine K.Sub.cons rfl ?_)) rfl rfl)
  refine fun r => ?_
  obtain ⟨B14, B15⟩ := r
  dsimp only
  refine K.a_then (K.c_seq (K.c_region ?_))
  refine K.s_pure (K.p_assign rfl) rfl (K.l_nil (K.a_then ?_))
  have hmid := mid_at (p := p) (c := c)
  obtain ⟨ecm, hec⟩ : ∃ ecm, er[hfQ p c]? = some ecm := ⟨_, List.getElem?_eq_getElem (by omega)⟩
  have hecz : er[((hfQ p c : Nat) : Int).toNat]? = some ecm := by rw [Int.toNat_natCast]; exact hec
  have hcm := hrr.2.2 _ ecm _ hec hmid
  have hpos := pos_le p c
  have h1e := RowC.ones hrr
  have h3e := hrr.2.1
  refine K.c_cut (σ := DvS) (fun _ => [(0, .pointer (some ⟨Bw, 0, none⟩)), (1, uV n), (4, .bool root), (7, .pointer (some ⟨B7, 0, none⟩)), (10, .pointer (some ⟨B10, 0, none⟩)), (14, .pointer (some ⟨B14, 0, none⟩)), (15, .pointer (some ⟨B15, 0, none⟩)), (16, txt (entQ p c))]) (fun s => s.hb)
    (fun s => blk B14 55 (cP p s.lv) :: blk B15 55 (cP ⟨p.kind, 0, rnQ p c, []⟩ s.rv) :: blk B10 52 [.bool false, .int .u32 0, .slice none 0 0] :: blk B7 55 (cP p (.slice ao p.cells.length ca)) :: blk Bw 81 (wkV (bufV a rows.length cap) fv cnt) :: bufA 58 5 a rows.length cap rows.flatten :: F) (fun s => h1.le s.hb ∧ CellsV s.hb s.lv (lcQ p c) ∧ CellsV s.hb s.rv (rcQ p c)) ?_ (fun KJ hJ => ?_)
  · rintro ⟨hb, lv, rv⟩ ⟨hle2, hlv, hrv⟩
    have hlr : (lcQ p c).length ≤ (rowQ p c).length ∧ (rcQ p c).length ≤ (rowQ p c).length := by
      constructor
      · unfold lcQ; split <;> simp [List.length_eraseIdx] <;> (try split) <;> omega
      · unfold rcQ; split <;> (try split) <;> simp [List.length_eraseIdx] <;> (try split) <;> omega
    have hlcl : (lcQ p c).length ≤ 9223372036854775807 := by omega
    have hrcl : (rcQ p c).length ≤ 9223372036854775807 := by omega
    have hrn4 : rnQ p c < 4294967296 := by
      unfold rnQ
      split
      · exact hw.next
      · rename_i hk
        exact childOf_lt (row_big hd (hd.kind.resolve_left hk) _ mid_mem)
    have hent : (entQ p c).length ≤ 1010 := by
      have h1 : (midQ p c).data.length ≤ 1010 := by
        rcases row_mem (mid_mem (p := p) (c := c)) with h | h
        · rw [h]; exact hd.cdata
        · have := hd.data _ h; omega
      unfold entQ keyQ
      split
      · simp; omega
      · exact h1
    have hhd : ∀ l : List Nat, (∀ x ∈ l, x < 4294967296) → l.headD 0 < 4294967296 := fun l hl => by
      cases l with
      | nil => decide
      | cons x l => exact hl x (List.mem_cons_self ..)
    have hf2 := (hf.le hle1).le hle2
    have hr2 := (hr.le hle1).le hle2
    have hfr0 := hhd fs hf2.2
    have hfr1 := hhd fs.tail (fun x hx => hf2.2 x (List.mem_of_mem_tail hx))
    have hlv0 := hlv
    have hrv0 := hrv
    obtain ⟨el, hsl, _, _⟩ := hlv
    obtain ⟨al, cl, rfl⟩ := hsl.len
    obtain ⟨er2, hsr2, _, _⟩ := hrv
    obtain ⟨ar2, cr, rfl⟩ := hsr2.len
    generalize el.length = nl at hlv0 ⊢
    generalize er2.length = nr at hrv0 ⊢
    clear hsl hsr2
    dsimp only
    cases root with
    | false =>
      by_cases hk : p.kind = 2
      · have elq : leftQ p c false fs = ⟨p.kind, p.lsn, (fs.headD 0), lcQ p c⟩ := by unfold leftQ frQ fs1; simp [hk]
        have ediv : divI n p c false fs = [⟨n, ⟨p.kind, p.lsn, (fs.headD 0), lcQ p c⟩⟩, ⟨(fs.headD 0), ⟨p.kind, 0, rnQ p c, rcQ p c⟩⟩] := by unfold divI; rw [elq]; rfl
        have hpL : PagC hb (cP ⟨p.kind, p.lsn, (fs.headD 0), lcQ p c⟩ (.slice al nl cl)) ⟨p.kind, p.lsn, (fs.headD 0), lcQ p c⟩ := ⟨⟨hw.kind, hw.lsn, hfr0, hlcl⟩, _, rfl, hlv0⟩
        have hpR : PagC hb (cP ⟨p.kind, 0, rnQ p c, rcQ p c⟩ (.slice ar2 nr cr)) ⟨p.kind, 0, rnQ p c, rcQ p c⟩ := ⟨⟨hw.kind, (show (0 : Nat) < 18446744073709551616 by decide), hrn4, hrcl⟩, _, rfl, hrv0⟩
        (repeat' (first | refine X.rq ?_ | (refine X.rc ?_ ?_ <;> intro hc <;> first | (exfalso; omega) | skip)))
        refine K.l_call (Fx.cal rfl) rfl (Take hb Bw (bufV a rows.length cap) fv fs cnt hf2 (by omega) (by omega)) (K.pp [4] rfl) rfl ?_
        rintro u h3 H' - ⟨e3, rfl, fv1, hf3, rfl⟩
        obtain rfl := e3.symm
        simp only [List.set_cons_zero, List.set_cons_succ, List.eraseIdx_cons_zero, List.eraseIdx_cons_succ, List.cons_append, List.nil_append]
        (repeat' (first | refine X.rq ?_ | (refine X.rc ?_ ?_ <;> intro hc <;> first | (exfalso; omega) | skip)))
        refine X.sto ?_
        simp only [List.set_cons_zero, List.set_cons_succ, List.eraseIdx_cons_zero, List.eraseIdx_cons_succ, List.cons_append, List.nil_append]
        (repeat' (first | refine X.rq ?_ | (refine X.rc ?_ ?_ <;> intro hc <;> first | (exfalso; omega) | skip)))
        refine K.l_call (Fx.cal rfl) rfl (PutW hb Bw fv1 (cnt + 1) n ⟨p.kind, p.lsn, (fs.headD 0), lcQ p c⟩ (.slice al nl cl) a cap rows hpL (by omega)) (K.pp [0, 4] rfl) rfl ?_
        rintro u h6 H' - ⟨e6, a1, cap1, rfl⟩
        obtain rfl := e6.symm
        rw [show rows.length + 1 = (rows ++ [uV n :: cP ⟨p.kind, p.lsn, (fs.headD 0), lcQ p c⟩ (.slice al nl cl)]).length by simp]
        simp only [List.set_cons_zero, List.set_cons_succ, List.eraseIdx_cons_zero, List.eraseIdx_cons_succ, List.cons_append, List.nil_append]
        (repeat' (first | refine X.rq ?_ | (refine X.rc ?_ ?_ <;> intro hc <;> first | (exfalso; omega) | skip)))
        refine K.l_call (Fx.cal rfl) rfl (PutW hb Bw fv1 (cnt + 1) (fs.headD 0) ⟨p.kind, 0, rnQ p c, rcQ p c⟩ (.slice ar2 nr cr) a1 cap1 (rows ++ [uV n :: cP ⟨p.kind, p.lsn, (fs.headD 0), lcQ p c⟩ (.slice al nl cl)]) hpR (by simp; omega)) (K.pp [0, 0] rfl) rfl ?_
        rintro u h6 H' - ⟨e6, a2, cap2, rfl⟩
        obtain rfl := e6.symm
        rw [show (rows ++ [uV n :: cP ⟨p.kind, p.lsn, (fs.headD 0), lcQ p c⟩ (.slice al nl cl)]).length + 1 = ((rows ++ [uV n :: cP ⟨p.kind, p.lsn, (fs.headD 0), lcQ p c⟩ (.slice al nl cl)]) ++ [uV (fs.headD 0) :: cP ⟨p.kind, 0, rnQ p c, rcQ p c⟩ (.slice ar2 nr cr)]).length by simp]
        simp only [List.set_cons_zero, List.set_cons_succ, List.eraseIdx_cons_zero, List.eraseIdx_cons_succ, List.cons_append, List.nil_append]
        (repeat' (first | refine X.rq ?_ | (refine X.rc ?_ ?_ <;> intro hc <;> first | (exfalso; omega) | skip)))
        refine K.l_call (Fx.cal rfl) rfl (UpC hb (entQ p c) (fs.headD 0) (by omega) hfr0) (K.pp [] rfl) rfl ?_
        rintro u h7 H' le7 ⟨rfl, cs7, rfl, hup7⟩
        obtain ⟨_, _, ao7, ca7, rfl, _⟩ := id hup7
        simp only [List.set_cons_zero, List.set_cons_succ, List.eraseIdx_cons_zero, List.eraseIdx_cons_succ, List.cons_append, List.nil_append]
        refine X.stw ?_
        simp only [List.set_cons_zero, List.set_cons_succ, List.eraseIdx_cons_zero, List.eraseIdx_cons_succ, List.cons_append, List.nil_append]
        (repeat' (first | refine X.rq ?_ | (refine X.rc ?_ ?_ <;> intro hc <;> first | (exfalso; omega) | skip)))
        refine K.AT.perm (K.pp [4, 2, 2, 2] rfl) ?_
        simp only [List.set_cons_zero, List.set_cons_succ, List.eraseIdx_cons_zero, List.eraseIdx_cons_succ, List.cons_append, List.nil_append]
        have hri := ((RowsI.le hr2 le7).snoc hn (hpL.le le7)).snoc hfr0 (hpR.le le7)
        refine K.doneC (vs := [.agg [.bool (upQ (entQ p c) (fs.headD 0)).used, .int .u32 (upQ (entQ p c) (fs.headD 0)).killer, .slice ao7 (upQ (entQ p c) (fs.headD 0)).data.length ca7].toArray]) (by first | exact Or.inl rfl | exact Or.inr rfl) (.cell rfl (Fx.agg rfl) (Fx.sz rfl) (K.cels_own (pre := []) (post := []) 0 rfl rfl) .nil) (hle1.trans (hle2.trans le7)) (D := [_, _, _, _]) (H' := [_, _]) rfl ⟨a2, cap2, ((rows ++ [uV n :: cP ⟨p.kind, p.lsn, (fs.headD 0), lcQ p c⟩ (.slice al nl cl)]) ++ [uV (fs.headD 0) :: cP ⟨p.kind, 0, rnQ p c, rcQ p c⟩ (.slice ar2 nr cr)]), fv1, _, rfl, hup7, hf3.le le7, ?_, rfl⟩
        rw [ediv]
        simpa using hri
      · have elq : leftQ p c false fs = ⟨p.kind, p.lsn, p.next, lcQ p c⟩ := by unfold leftQ frQ fs1; simp [hk]
        have ediv : divI n p c false fs = [⟨n, ⟨p.kind, p.lsn, p.next, lcQ p c⟩⟩, ⟨(fs.headD 0), ⟨p.kind, 0, rnQ p c, rcQ p c⟩⟩] := by unfold divI; rw [elq]; rfl
        have hpL : PagC hb (cP ⟨p.kind, p.lsn, p.next, lcQ p c⟩ (.slice al nl cl)) ⟨p.kind, p.lsn, p.next, lcQ p c⟩ := ⟨⟨hw.kind, hw.lsn, hw.next, hlcl⟩, _, rfl, hlv0⟩
        have hpR : PagC hb (cP ⟨p.kind, 0, rnQ p c, rcQ p c⟩ (.slice ar2 nr cr)) ⟨p.kind, 0, rnQ p c, rcQ p c⟩ := ⟨⟨hw.kind, (show (0 : Nat) < 18446744073709551616 by decide), hrn4, hrcl⟩, _, rfl, hrv0⟩
        (repeat' (first | refine X.rq ?_ | (refine X.rc ?_ ?_ <;> intro hc <;> first | (exfalso; omega) | skip)))
        refine K.l_call (Fx.cal rfl) rfl (Take hb Bw (bufV a rows.length cap) fv fs cnt hf2 (by omega) (by omega)) (K.pp [4] rfl) rfl ?_
        rintro u h3 H' - ⟨e3, rfl, fv1, hf3, rfl⟩
        obtain rfl := e3.symm
        simp only [List.set_cons_zero, List.set_cons_succ, List.eraseIdx_cons_zero, List.eraseIdx_cons_succ, List.cons_append, List.nil_append]
        (repeat' (first | refine X.rq ?_ | (refine X.rc ?_ ?_ <;> intro hc <;> first | (exfalso; omega) | skip)))
        refine K.l_call (Fx.cal rfl) rfl (PutW hb Bw fv1 (cnt + 1) n ⟨p.kind, p.lsn, p.next, lcQ p c⟩ (.slice al nl cl) a cap rows hpL (by omega)) (K.pp [0, 4] rfl) rfl ?_
        rintro u h6 H' - ⟨e6, a1, cap1, rfl⟩
        obtain rfl := e6.symm
        rw [show rows.length + 1 = (rows ++ [uV n :: cP ⟨p.kind, p.lsn, p.next, lcQ p c⟩ (.slice al nl cl)]).length by simp]
        simp only [List.set_cons_zero, List.set_cons_succ, List.eraseIdx_cons_zero, List.eraseIdx_cons_succ, List.cons_append, List.nil_append]
        (repeat' (first | refine X.rq ?_ | (refine X.rc ?_ ?_ <;> intro hc <;> first | (exfalso; omega) | skip)))
        refine K.l_call (Fx.cal rfl) rfl (PutW hb Bw fv1 (cnt + 1) (fs.headD 0) ⟨p.kind, 0, rnQ p c, rcQ p c⟩ (.slice ar2 nr cr) a1 cap1 (rows ++ [uV n :: cP ⟨p.kind, p.lsn, p.next, lcQ p c⟩ (.slice al nl cl)]) hpR (by simp; omega)) (K.pp [0, 0] rfl) rfl ?_
        rintro u h6 H' - ⟨e6, a2, cap2, rfl⟩
        obtain rfl := e6.symm
        rw [show (rows ++ [uV n :: cP ⟨p.kind, p.lsn, p.next, lcQ p c⟩ (.slice al nl cl)]).length + 1 = ((rows ++ [uV n :: cP ⟨p.kind, p.lsn, p.next, lcQ p c⟩ (.slice al nl cl)]) ++ [uV (fs.headD 0) :: cP ⟨p.kind, 0, rnQ p c, rcQ p c⟩ (.slice ar2 nr cr)]).length by simp]
        simp only [List.set_cons_zero, List.set_cons_succ, List.eraseIdx_cons_zero, List.eraseIdx_cons_succ, List.cons_append, List.nil_append]
        (repeat' (first | refine X.rq ?_ | (refine X.rc ?_ ?_ <;> intro hc <;> first | (exfalso; omega) | skip)))
        refine K.l_call (Fx.cal rfl) rfl (UpC hb (entQ p c) (fs.headD 0) (by omega) hfr0) (K.pp [] rfl) rfl ?_
        rintro u h7 H' le7 ⟨rfl, cs7, rfl, hup7⟩
        obtain ⟨_, _, ao7, ca7, rfl, _⟩ := id hup7
        simp only [List.set_cons_zero, List.set_cons_succ, List.eraseIdx_cons_zero, List.eraseIdx_cons_succ, List.cons_append, List.nil_append]
        refine X.stw ?_
        simp only [List.set_cons_zero, List.set_cons_succ, List.eraseIdx_cons_zero, List.eraseIdx_cons_succ, List.cons_append, List.nil_append]
        (repeat' (first | refine X.rq ?_ | (refine X.rc ?_ ?_ <;> intro hc <;> first | (exfalso; omega) | skip)))
        refine K.AT.perm (K.pp [4, 2, 2, 2] rfl) ?_
        simp only [List.set_cons_zero, List.set_cons_succ, List.eraseIdx_cons_zero, List.eraseIdx_cons_succ, List.cons_append, List.nil_append]
        have hri := ((RowsI.le hr2 le7).snoc hn (hpL.le le7)).snoc hfr0 (hpR.le le7)
        refine K.doneC (vs := [.agg [.bool (upQ (entQ p c) (fs.headD 0)).used, .int .u32 (upQ (entQ p c) (fs.headD 0)).killer, .slice ao7 (upQ (entQ p c) (fs.headD 0)).data.length ca7].toArray]) (by first | exact Or.inl rfl | exact Or.inr rfl) (.cell rfl (Fx.agg rfl) (Fx.sz rfl) (K.cels_own (pre := []) (post := []) 0 rfl rfl) .nil) (hle1.trans (hle2.trans le7)) (D := [_, _, _, _]) (H' := [_, _]) rfl ⟨a2, cap2, ((rows ++ [uV n :: cP ⟨p.kind, p.lsn, p.next, lcQ p c⟩ (.slice al nl cl)]) ++ [uV (fs.headD 0) :: cP ⟨p.kind, 0, rnQ p c, rcQ p c⟩ (.slice ar2 nr cr)]), fv1, _, rfl, hup7, hf3.le le7, ?_, rfl⟩
        rw [ediv]
        simpa using hri
    | true =>
      by_cases hk : p.kind = 2
      · have elq : leftQ p c true fs = ⟨p.kind, 0, (fs.tail.headD 0), lcQ p c⟩ := by unfold leftQ frQ fs1; simp [hk]
        have ediv : divI n p c true fs = [⟨n, ⟨3, p.lsn, fs.headD 0, [upQ (entQ p c) (fs.tail.headD 0)]⟩⟩, ⟨(fs.headD 0), ⟨p.kind, 0, (fs.tail.headD 0), lcQ p c⟩⟩, ⟨(fs.tail.headD 0), ⟨p.kind, 0, rnQ p c, rcQ p c⟩⟩] := by unfold divI; rw [elq]; rfl
        have hpL : PagC hb (cP ⟨p.kind, 0, (fs.tail.headD 0), lcQ p c⟩ (.slice al nl cl)) ⟨p.kind, 0, (fs.tail.headD 0), lcQ p c⟩ := ⟨⟨hw.kind, (show (0 : Nat) < 18446744073709551616 by decide), hfr1, hlcl⟩, _, rfl, hlv0⟩
        have hpR : PagC hb (cP ⟨p.kind, 0, rnQ p c, rcQ p c⟩ (.slice ar2 nr cr)) ⟨p.kind, 0, rnQ p c, rcQ p c⟩ := ⟨⟨hw.kind, (show (0 : Nat) < 18446744073709551616 by decide), hrn4, hrcl⟩, _, rfl, hrv0⟩
        (repeat' (first | refine X.rq ?_ | (refine X.rc ?_ ?_ <;> intro hc <;> first | (exfalso; omega) | skip)))
        refine K.l_call (Fx.cal rfl) rfl (Take hb Bw (bufV a rows.length cap) fv fs cnt hf2 (by omega) (by omega)) (K.pp [4] rfl) rfl ?_
        rintro u h3 H' - ⟨e3, rfl, fv1, hf3, rfl⟩
        obtain rfl := e3.symm
        simp only [List.set_cons_zero, List.set_cons_succ, List.eraseIdx_cons_zero, List.eraseIdx_cons_succ, List.cons_append, List.nil_append]
        (repeat' (first | refine X.rq ?_ | (refine X.rc ?_ ?_ <;> intro hc <;> first | (exfalso; omega) | skip)))
        refine K.l_call (Fx.cal rfl) rfl (Take hb Bw (bufV a rows.length cap) fv1 fs.tail (cnt + 1) hf3 (by rw [List.length_tail]; omega) (by omega)) (K.pp [0] rfl) rfl ?_
        rintro u h3 H' - ⟨e3, rfl, fv2, hf4, rfl⟩
        obtain rfl := e3.symm
        simp only [List.set_cons_zero, List.set_cons_succ, List.eraseIdx_cons_zero, List.eraseIdx_cons_succ, List.cons_append, List.nil_append]
        (repeat' (first | refine X.rq ?_ | (refine X.rc ?_ ?_ <;> intro hc <;> first | (exfalso; omega) | skip)))
        refine X.sto ?_
        simp only [List.set_cons_zero, List.set_cons_succ, List.eraseIdx_cons_zero, List.eraseIdx_cons_succ, List.cons_append, List.nil_append]
        (repeat' (first | refine X.rq ?_ | (refine X.rc ?_ ?_ <;> intro hc <;> first | (exfalso; omega) | skip)))
        refine X.sto ?_
        simp only [List.set_cons_zero, List.set_cons_succ, List.eraseIdx_cons_zero, List.eraseIdx_cons_succ, List.cons_append, List.nil_append]
        (repeat' (first | refine X.rq ?_ | (refine X.rc ?_ ?_ <;> intro hc <;> first | (exfalso; omega) | skip)))
        refine X.draw ([blk B7 55 (cP p (.slice ao p.cells.length ca))]) [] (.pu 0 (.pu 1 (.pu 2 (.pu 4 (.pu 5 (.pu 6 (.st 3 (.on 7 (.on 8 (.pu 9 (.on 10 .nil))))))))))) ?_
        refine K.d_pu rfl (fun _ _ => X.mv) rfl ?_
        refine K.d_pu rfl (fun _ _ => X.mv) rfl ?_
        refine K.d_pu rfl (fun _ _ => X.fa) rfl ?_
        refine K.d_pu rfl (fun _ _ => X.mv) rfl ?_
        refine K.d_pu rfl (fun _ _ => X.mv) rfl ?_
        refine K.d_pu rfl (fun _ _ => X.mv) rfl ?_
        refine K.d_st rfl X.ld rfl ?_
        refine K.d_on rfl (fun KK hKK => ?_)
        refine K.l_call (Fx.cal rfl) rfl (UpC hb (entQ p c) (fs.tail.headD 0) (by omega) hfr1) (K.pp [] rfl) rfl ?_
        rintro u h4 H' le4 ⟨rfl, cs4, rfl, hup4⟩
        obtain ⟨_, _, ao5, ca5, rfl, _⟩ := id hup4
        simp only [List.nil_append]
        refine K.l_nil ?_
        refine X.onE hKK ?_
        refine K.d_on rfl (fun KK hKK => ?_)
        refine K.l_buildSlice (Fx.und rfl) (Fx.sz rfl) rfl (Fx.zr rfl) rfl rfl rfl (cs := [.bool (upQ (entQ p c) (fs.tail.headD 0)).used, .int .u32 (upQ (entQ p c) (fs.tail.headD 0)).killer, .slice ao5 (upQ (entQ p c) (fs.tail.headD 0)).data.length ca5]) rfl rfl (fun BS => ?_)
        refine K.WL.bufOf (m := 1) (s := 3) rfl (by unfold maxLen; omega) ?_
        refine K.WL.freezeRow (es := [[.bool (upQ (entQ p c) (fs.tail.headD 0)).used, .int .u32 (upQ (entQ p c) (fs.tail.headD 0)).killer, .slice ao5 (upQ (entQ p c) (fs.tail.headD 0)).data.length ca5]]) (fun e he => by rw [List.mem_singleton.1 he]; rfl) (fun h5 le5 hs5 _ => ?_)
        have le45 := le4.trans le5
        refine K.l_nil ?_
        refine X.onE hKK ?_
        refine K.d_pu rfl (fun _ _ => X.bd) rfl ?_
        refine K.d_on rfl (fun KK hKK => ?_)
        have hpT : PagC h5 (cP ⟨3, p.lsn, fs.headD 0, [upQ (entQ p c) (fs.tail.headD 0)]⟩ (bufV (some BS) 1 1)) ⟨3, p.lsn, fs.headD 0, [upQ (entQ p c) (fs.tail.headD 0)]⟩ := ⟨⟨⟨show (-9223372036854775808 : Int) ≤ 3 by decide, show (3 : Int) ≤ 9223372036854775807 by decide⟩, hw.lsn, hfr0, show (1 : Nat) ≤ 9223372036854775807 by decide⟩, _, rfl, CellsV.of (l := [upQ (entQ p c) (fs.tail.headD 0)]) hs5 (by exact ⟨rfl, fun e he => by rw [List.mem_singleton.1 he]; rfl, fun j c' x hj hx => by
        cases j with
        | zero => cases hj; cases hx; exact hup4.le le5
        | succ j => simp at hj⟩)⟩
        refine K.l_call (Fx.cal rfl) rfl (PutW h5 Bw fv2 (cnt + 1 + 1) n ⟨3, p.lsn, fs.headD 0, [upQ (entQ p c) (fs.tail.headD 0)]⟩ (bufV (some BS) 1 1) a cap rows hpT (by omega)) (K.pp [0, 4] rfl) rfl ?_
        rintro u h6 H' - ⟨e6, a0, cap0, rfl⟩
        obtain rfl := e6.symm
        refine K.l_nil ?_
        refine X.onE hKK ?_
        refine K.d_nil ?_
        rw [show rows.length + 1 = (rows ++ [uV n :: cP ⟨3, p.lsn, fs.headD 0, [upQ (entQ p c) (fs.tail.headD 0)]⟩ (bufV (some BS) 1 1)]).length by simp]
        simp only [List.set_cons_zero, List.set_cons_succ, List.eraseIdx_cons_zero, List.eraseIdx_cons_succ, List.cons_append, List.nil_append]
        (repeat' (first | refine X.rq ?_ | (refine X.rc ?_ ?_ <;> intro hc <;> first | (exfalso; omega) | skip)))
        have le9 := hle2.trans (le4.trans le5)
        have leb := le4.trans le5
        have hpL := hpL.le leb
        have hpR := hpR.le leb
        have hr2 := (RowsI.le hr2 leb).snoc hn hpT
        have hf4 := hf4.le leb
        refine K.l_call (Fx.cal rfl) rfl (PutW h5 Bw fv2 (cnt + 1 + 1) (fs.headD 0) ⟨p.kind, 0, (fs.tail.headD 0), lcQ p c⟩ (.slice al nl cl) a0 cap0 (rows ++ [uV n :: cP ⟨3, p.lsn, fs.headD 0, [upQ (entQ p c) (fs.tail.headD 0)]⟩ (bufV (some BS) 1 1)]) hpL (by simp; omega)) (K.pp [0, 0] rfl) rfl ?_
        rintro u h6 H' - ⟨e6, a1, cap1, rfl⟩
        obtain rfl := e6.symm
        rw [show (rows ++ [uV n :: cP ⟨3, p.lsn, fs.headD 0, [upQ (entQ p c) (fs.tail.headD 0)]⟩ (bufV (some BS) 1 1)]).length + 1 = ((rows ++ [uV n :: cP ⟨3, p.lsn, fs.headD 0, [upQ (entQ p c) (fs.tail.headD 0)]⟩ (bufV (some BS) 1 1)]) ++ [uV (fs.headD 0) :: cP ⟨p.kind, 0, (fs.tail.headD 0), lcQ p c⟩ (.slice al nl cl)]).length by simp]
        simp only [List.set_cons_zero, List.set_cons_succ, List.eraseIdx_cons_zero, List.eraseIdx_cons_succ, List.cons_append, List.nil_append]
        (repeat' (first | refine X.rq ?_ | (refine X.rc ?_ ?_ <;> intro hc <;> first | (exfalso; omega) | skip)))
        refine K.l_call (Fx.cal rfl) rfl (PutW h5 Bw fv2 (cnt + 1 + 1) (fs.tail.headD 0) ⟨p.kind, 0, rnQ p c, rcQ p c⟩ (.slice ar2 nr cr) a1 cap1 ((rows ++ [uV n :: cP ⟨3, p.lsn, fs.headD 0, [upQ (entQ p c) (fs.tail.headD 0)]⟩ (bufV (some BS) 1 1)]) ++ [uV (fs.headD 0) :: cP ⟨p.kind, 0, (fs.tail.headD 0), lcQ p c⟩ (.slice al nl cl)]) hpR (by simp; omega)) (K.pp [0, 0] rfl) rfl ?_
        rintro u h6 H' - ⟨e6, a2, cap2, rfl⟩
        obtain rfl := e6.symm
        rw [show ((rows ++ [uV n :: cP ⟨3, p.lsn, fs.headD 0, [upQ (entQ p c) (fs.tail.headD 0)]⟩ (bufV (some BS) 1 1)]) ++ [uV (fs.headD 0) :: cP ⟨p.kind, 0, (fs.tail.headD 0), lcQ p c⟩ (.slice al nl cl)]).length + 1 = (((rows ++ [uV n :: cP ⟨3, p.lsn, fs.headD 0, [upQ (entQ p c) (fs.tail.headD 0)]⟩ (bufV (some BS) 1 1)]) ++ [uV (fs.headD 0) :: cP ⟨p.kind, 0, (fs.tail.headD 0), lcQ p c⟩ (.slice al nl cl)]) ++ [uV (fs.tail.headD 0) :: cP ⟨p.kind, 0, rnQ p c, rcQ p c⟩ (.slice ar2 nr cr)]).length by simp]
        simp only [List.set_cons_zero, List.set_cons_succ, List.eraseIdx_cons_zero, List.eraseIdx_cons_succ, List.cons_append, List.nil_append]
        (repeat' (first | refine X.rq ?_ | (refine X.rc ?_ ?_ <;> intro hc <;> first | (exfalso; omega) | skip)))
        refine K.l_call (Fx.cal rfl) rfl (UpC h5 (entQ p c) (fs.tail.headD 0) (by omega) hfr1) (K.pp [] rfl) rfl ?_
        rintro u h7 H' le7 ⟨rfl, cs7, rfl, hup7⟩
        obtain ⟨_, _, ao7, ca7, rfl, _⟩ := id hup7
        simp only [List.set_cons_zero, List.set_cons_succ, List.eraseIdx_cons_zero, List.eraseIdx_cons_succ, List.cons_append, List.nil_append]
        refine X.stw ?_
        simp only [List.set_cons_zero, List.set_cons_succ, List.eraseIdx_cons_zero, List.eraseIdx_cons_succ, List.cons_append, List.nil_append]
        (repeat' (first | refine X.rq ?_ | (refine X.rc ?_ ?_ <;> intro hc <;> first | (exfalso; omega) | skip)))
        refine K.AT.perm (K.pp [4, 2, 2, 2] rfl) ?_
        simp only [List.set_cons_zero, List.set_cons_succ, List.eraseIdx_cons_zero, List.eraseIdx_cons_succ, List.cons_append, List.nil_append]
        have hri := ((RowsI.le hr2 le7).snoc hfr0 (hpL.le le7)).snoc hfr1 (hpR.le le7)
        refine K.doneC (vs := [.agg [.bool (upQ (entQ p c) (fs.tail.headD 0)).used, .int .u32 (upQ (entQ p c) (fs.tail.headD 0)).killer, .slice ao7 (upQ (entQ p c) (fs.tail.headD 0)).data.length ca7].toArray]) (by first | exact Or.inl rfl | exact Or.inr rfl) (.cell rfl (Fx.agg rfl) (Fx.sz rfl) (K.cels_own (pre := []) (post := []) 0 rfl rfl) .nil) (hle1.trans (le9.trans le7)) (D := [_, _, _, _]) (H' := [_, _]) rfl ⟨a2, cap2, (((rows ++ [uV n :: cP ⟨3, p.lsn, fs.headD 0, [upQ (entQ p c) (fs.tail.headD 0)]⟩ (bufV (some BS) 1 1)]) ++ [uV (fs.headD 0) :: cP ⟨p.kind, 0, (fs.tail.headD 0), lcQ p c⟩ (.slice al nl cl)]) ++ [uV (fs.tail.headD 0) :: cP ⟨p.kind, 0, rnQ p c, rcQ p c⟩ (.slice ar2 nr cr)]), fv2, _, rfl, hup7, hf4.le le7, ?_, rfl⟩
        rw [ediv]
        simpa using hri
      · have elq : leftQ p c true fs = ⟨p.kind, 0, p.next, lcQ p c⟩ := by unfold leftQ frQ fs1; simp [hk]
        have ediv : divI n p c true fs = [⟨n, ⟨3, p.lsn, fs.headD 0, [upQ (entQ p c) (fs.tail.headD 0)]⟩⟩, ⟨(fs.headD 0), ⟨p.kind, 0, p.next, lcQ p c⟩⟩, ⟨(fs.tail.headD 0), ⟨p.kind, 0, rnQ p c, rcQ p c⟩⟩] := by unfold divI; rw [elq]; rfl
        have hpL : PagC hb (cP ⟨p.kind, 0, p.next, lcQ p c⟩ (.slice al nl cl)) ⟨p.kind, 0, p.next, lcQ p c⟩ := ⟨⟨hw.kind, (show (0 : Nat) < 18446744073709551616 by decide), hw.next, hlcl⟩, _, rfl, hlv0⟩
        have hpR : PagC hb (cP ⟨p.kind, 0, rnQ p c, rcQ p c⟩ (.slice ar2 nr cr)) ⟨p.kind, 0, rnQ p c, rcQ p c⟩ := ⟨⟨hw.kind, (show (0 : Nat) < 18446744073709551616 by decide), hrn4, hrcl⟩, _, rfl, hrv0⟩
        (repeat' (first | refine X.rq ?_ | (refine X.rc ?_ ?_ <;> intro hc <;> first | (exfalso; omega) | skip)))
        refine K.l_call (Fx.cal rfl) rfl (Take hb Bw (bufV a rows.length cap) fv fs cnt hf2 (by omega) (by omega)) (K.pp [4] rfl) rfl ?_
        rintro u h3 H' - ⟨e3, rfl, fv1, hf3, rfl⟩
        obtain rfl := e3.symm
        simp only [List.set_cons_zero, List.set_cons_succ, List.eraseIdx_cons_zero, List.eraseIdx_cons_succ, List.cons_append, List.nil_append]
        (repeat' (first | refine X.rq ?_ | (refine X.rc ?_ ?_ <;> intro hc <;> first | (exfalso; omega) | skip)))
        refine K.l_call (Fx.cal rfl) rfl (Take hb Bw (bufV a rows.length cap) fv1 fs.tail (cnt + 1) hf3 (by rw [List.length_tail]; omega) (by omega)) (K.pp [0] rfl) rfl ?_
        rintro u h3 H' - ⟨e3, rfl, fv2, hf4, rfl⟩
        obtain rfl := e3.symm
        simp only [List.set_cons_zero, List.set_cons_succ, List.eraseIdx_cons_zero, List.eraseIdx_cons_succ, List.cons_append, List.nil_append]
        (repeat' (first | refine X.rq ?_ | (refine X.rc ?_ ?_ <;> intro hc <;> first | (exfalso; omega) | skip)))
        refine X.sto ?_
        simp only [List.set_cons_zero, List.set_cons_succ, List.eraseIdx_cons_zero, List.eraseIdx_cons_succ, List.cons_append, List.nil_append]
        (repeat' (first | refine X.rq ?_ | (refine X.rc ?_ ?_ <;> intro hc <;> first | (exfalso; omega) | skip)))
        refine X.draw ([blk B7 55 (cP p (.slice ao p.cells.length ca))]) [] (.pu 0 (.pu 1 (.pu 2 (.pu 4 (.pu 5 (.pu 6 (.st 3 (.on 7 (.on 8 (.pu 9 (.on 10 .nil))))))))))) ?_
        refine K.d_pu rfl (fun _ _ => X.mv) rfl ?_
        refine K.d_pu rfl (fun _ _ => X.mv) rfl ?_
        refine K.d_pu rfl (fun _ _ => X.fa) rfl ?_
        refine K.d_pu rfl (fun _ _ => X.mv) rfl ?_
        refine K.d_pu rfl (fun _ _ => X.mv) rfl ?_
        refine K.d_pu rfl (fun _ _ => X.mv) rfl ?_
        refine K.d_st rfl X.ld rfl ?_
        refine K.d_on rfl (fun KK hKK => ?_)
        refine K.l_call (Fx.cal rfl) rfl (UpC hb (entQ p c) (fs.tail.headD 0) (by omega) hfr1) (K.pp [] rfl) rfl ?_
        rintro u h4 H' le4 ⟨rfl, cs4, rfl, hup4⟩
        obtain ⟨_, _, ao5, ca5, rfl, _⟩ := id hup4
        simp only [List.nil_append]
        refine K.l_nil ?_
        refine X.onE hKK ?_
        refine K.d_on rfl (fun KK hKK => ?_)
        refine K.l_buildSlice (Fx.und rfl) (Fx.sz rfl) rfl (Fx.zr rfl) rfl rfl rfl (cs := [.bool (upQ (entQ p c) (fs.tail.headD 0)).used, .int .u32 (upQ (entQ p c) (fs.tail.headD 0)).killer, .slice ao5 (upQ (entQ p c) (fs.tail.headD 0)).data.length ca5]) rfl rfl (fun BS => ?_)
        refine K.WL.bufOf (m := 1) (s := 3) rfl (by unfold maxLen; omega) ?_
        refine K.WL.freezeRow (es := [[.bool (upQ (entQ p c) (fs.tail.headD 0)).used, .int .u32 (upQ (entQ p c) (fs.tail.headD 0)).killer, .slice ao5 (upQ (entQ p c) (fs.tail.headD 0)).data.length ca5]]) (fun e he => by rw [List.mem_singleton.1 he]; rfl) (fun h5 le5 hs5 _ => ?_)
        have le45 := le4.trans le5
        refine K.l_nil ?_
        refine X.onE hKK ?_
        refine K.d_pu rfl (fun _ _ => X.bd) rfl ?_
        refine K.d_on rfl (fun KK hKK => ?_)
        have hpT : PagC h5 (cP ⟨3, p.lsn, fs.headD 0, [upQ (entQ p c) (fs.tail.headD 0)]⟩ (bufV (some BS) 1 1)) ⟨3, p.lsn, fs.headD 0, [upQ (entQ p c) (fs.tail.headD 0)]⟩ := ⟨⟨⟨show (-9223372036854775808 : Int) ≤ 3 by decide, show (3 : Int) ≤ 9223372036854775807 by decide⟩, hw.lsn, hfr0, show (1 : Nat) ≤ 9223372036854775807 by decide⟩, _, rfl, CellsV.of (l := [upQ (entQ p c) (fs.tail.headD 0)]) hs5 (by exact ⟨rfl, fun e he => by rw [List.mem_singleton.1 he]; rfl, fun j c' x hj hx => by
        cases j with
        | zero => cases hj; cases hx; exact hup4.le le5
        | succ j => simp at hj⟩)⟩
        refine K.l_call (Fx.cal rfl) rfl (PutW h5 Bw fv2 (cnt + 1 + 1) n ⟨3, p.lsn, fs.headD 0, [upQ (entQ p c) (fs.tail.headD 0)]⟩ (bufV (some BS) 1 1) a cap rows hpT (by omega)) (K.pp [0, 4] rfl) rfl ?_
        rintro u h6 H' - ⟨e6, a0, cap0, rfl⟩
        obtain rfl := e6.symm
        refine K.l_nil ?_
        refine X.onE hKK ?_
        refine K.d_nil ?_
        rw [show rows.length + 1 = (rows ++ [uV n :: cP ⟨3, p.lsn, fs.headD 0, [upQ (entQ p c) (fs.tail.headD 0)]⟩ (bufV (some BS) 1 1)]).length by simp]
        simp only [List.set_cons_zero, List.set_cons_succ, List.eraseIdx_cons_zero, List.eraseIdx_cons_succ, List.cons_append, List.nil_append]
        (repeat' (first | refine X.rq ?_ | (refine X.rc ?_ ?_ <;> intro hc <;> first | (exfalso; omega) | skip)))
        have le9 := hle2.trans (le4.trans le5)
        have leb := le4.trans le5
        have hpL := hpL.le leb
        have hpR := hpR.le leb
        have hr2 := (RowsI.le hr2 leb).snoc hn hpT
        have hf4 := hf4.le leb
        refine K.l_call (Fx.cal rfl) rfl (PutW h5 Bw fv2 (cnt + 1 + 1) (fs.headD 0) ⟨p.kind, 0, p.next, lcQ p c⟩ (.slice al nl cl) a0 cap0 (rows ++ [uV n :: cP ⟨3, p.lsn, fs.headD 0, [upQ (entQ p c) (fs.tail.headD 0)]⟩ (bufV (some BS) 1 1)]) hpL (by simp; omega)) (K.pp [0, 0] rfl) rfl ?_
        rintro u h6 H' - ⟨e6, a1, cap1, rfl⟩
        obtain rfl := e6.symm
        rw [show (rows ++ [uV n :: cP ⟨3, p.lsn, fs.headD 0, [upQ (entQ p c) (fs.tail.headD 0)]⟩ (bufV (some BS) 1 1)]).length + 1 = ((rows ++ [uV n :: cP ⟨3, p.lsn, fs.headD 0, [upQ (entQ p c) (fs.tail.headD 0)]⟩ (bufV (some BS) 1 1)]) ++ [uV (fs.headD 0) :: cP ⟨p.kind, 0, p.next, lcQ p c⟩ (.slice al nl cl)]).length by simp]
        simp only [List.set_cons_zero, List.set_cons_succ, List.eraseIdx_cons_zero, List.eraseIdx_cons_succ, List.cons_append, List.nil_append]
        (repeat' (first | refine X.rq ?_ | (refine X.rc ?_ ?_ <;> intro hc <;> first | (exfalso; omega) | skip)))
        refine K.l_call (Fx.cal rfl) rfl (PutW h5 Bw fv2 (cnt + 1 + 1) (fs.tail.headD 0) ⟨p.kind, 0, rnQ p c, rcQ p c⟩ (.slice ar2 nr cr) a1 cap1 ((rows ++ [uV n :: cP ⟨3, p.lsn, fs.headD 0, [upQ (entQ p c) (fs.tail.headD 0)]⟩ (bufV (some BS) 1 1)]) ++ [uV (fs.headD 0) :: cP ⟨p.kind, 0, p.next, lcQ p c⟩ (.slice al nl cl)]) hpR (by simp; omega)) (K.pp [0, 0] rfl) rfl ?_
        rintro u h6 H' - ⟨e6, a2, cap2, rfl⟩
        obtain rfl := e6.symm
        rw [show ((rows ++ [uV n :: cP ⟨3, p.lsn, fs.headD 0, [upQ (entQ p c) (fs.tail.headD 0)]⟩ (bufV (some BS) 1 1)]) ++ [uV (fs.headD 0) :: cP ⟨p.kind, 0, p.next, lcQ p c⟩ (.slice al nl cl)]).length + 1 = (((rows ++ [uV n :: cP ⟨3, p.lsn, fs.headD 0, [upQ (entQ p c) (fs.tail.headD 0)]⟩ (bufV (some BS) 1 1)]) ++ [uV (fs.headD 0) :: cP ⟨p.kind, 0, p.next, lcQ p c⟩ (.slice al nl cl)]) ++ [uV (fs.tail.headD 0) :: cP ⟨p.kind, 0, rnQ p c, rcQ p c⟩ (.slice ar2 nr cr)]).length by simp]
        simp only [List.set_cons_zero, List.set_cons_succ, List.eraseIdx_cons_zero, List.eraseIdx_cons_succ, List.cons_append, List.nil_append]
        (repeat' (first | refine X.rq ?_ | (refine X.rc ?_ ?_ <;> intro hc <;> first | (exfalso; omega) | skip)))
        refine K.l_call (Fx.cal rfl) rfl (UpC h5 (entQ p c) (fs.tail.headD 0) (by omega) hfr1) (K.pp [] rfl) rfl ?_
        rintro u h7 H' le7 ⟨rfl, cs7, rfl, hup7⟩
        obtain ⟨_, _, ao7, ca7, rfl, _⟩ := id hup7
        simp only [List.set_cons_zero, List.set_cons_succ, List.eraseIdx_cons_zero, List.eraseIdx_cons_succ, List.cons_append, List.nil_append]
        refine X.stw ?_
        simp only [List.set_cons_zero, List.set_cons_succ, List.eraseIdx_cons_zero, List.eraseIdx_cons_succ, List.cons_append, List.nil_append]
        (repeat' (first | refine X.rq ?_ | (refine X.rc ?_ ?_ <;> intro hc <;> first | (exfalso; omega) | skip)))
        refine K.AT.perm (K.pp [4, 2, 2, 2] rfl) ?_
        simp only [List.set_cons_zero, List.set_cons_succ, List.eraseIdx_cons_zero, List.eraseIdx_cons_succ, List.cons_append, List.nil_append]
        have hri := ((RowsI.le hr2 le7).snoc hfr0 (hpL.le le7)).snoc hfr1 (hpR.le le7)
        refine K.doneC (vs := [.agg [.bool (upQ (entQ p c) (fs.tail.headD 0)).used, .int .u32 (upQ (entQ p c) (fs.tail.headD 0)).killer, .slice ao7 (upQ (entQ p c) (fs.tail.headD 0)).data.length ca7].toArray]) (by first | exact Or.inl rfl | exact Or.inr rfl) (.cell rfl (Fx.agg rfl) (Fx.sz rfl) (K.cels_own (pre := []) (post := []) 0 rfl rfl) .nil) (hle1.trans (le9.trans le7)) (D := [_, _, _, _]) (H' := [_, _]) rfl ⟨a2, cap2, (((rows ++ [uV n :: cP ⟨3, p.lsn, fs.headD 0, [upQ (entQ p c) (fs.tail.headD 0)]⟩ (bufV (some BS) 1 1)]) ++ [uV (fs.headD 0) :: cP ⟨p.kind, 0, p.next, lcQ p c⟩ (.slice al nl cl)]) ++ [uV (fs.tail.headD 0) :: cP ⟨p.kind, 0, rnQ p c, rcQ p c⟩ (.slice ar2 nr cr)]), fv2, _, rfl, hup7, hf4.le le7, ?_, rfl⟩
        rw [ediv]
        simpa using hri
  have hcm0 := hcm
  obtain ⟨hkm, hdm, aom, cam, rfl, hbm⟩ := hcm
  by_cases hk : p.kind = 2
  · have hen : entQ p c = (midQ p c).data := by unfold entQ keyQ; rw [if_neg (by omega)]
    have hrn : rnQ p c = p.next := by unfold rnQ; rw [if_pos hk]
    (repeat' (first | refine X.rq ?_ | (refine X.rc ?_ ?_ <;> intro hc <;> first | (exfalso; omega) | skip)))
    refine K.s_pureE (K.p_indexL hsr (Fx.und rfl) (Fx.sz rfl) rfl rfl (by omega) hecz) rfl ?_
    rintro v2 ⟨b, o, rfl, hcel⟩
    have hq1 := (Cels.up (K := blk B14 55 (cP p (.slice ao p.cells.length ca)) :: blk B15 55 (cP ⟨p.kind, 0, p.next, []⟩ (.slice none 0 0)) :: blk B10 52 [.bool false, .int .u32 0, .slice none 0 0] :: blk B7 55 (cP p (.slice ao p.cells.length ca)) :: blk Bw 81 (wkV (bufV a rows.length cap) fv cnt) :: bufA 58 5 a rows.length cap rows.flatten :: F) hcel).2.2.1
    (repeat' (first | refine X.rq ?_ | (refine X.rc ?_ ?_ <;> intro hc <;> first | (exfalso; omega) | skip)))
    refine K.s_pure (K.p_textB hbm (Fx.und rfl) (Fx.und rfl) (Fx.und rfl) rfl) rfl ?_
    (repeat' (first | refine X.rq ?_ | (refine X.rc ?_ ?_ <;> intro hc <;> first | (exfalso; omega) | skip)))
    refine X.draw ([]) [] (.pu 0 (.pu 1 (.pu 2 (.pu 4 (.pu 5 (.st 3 (.pu 7 (.st 6 (.pu 8 .nil))))))))) ?_
    refine K.d_pu rfl (fun _ _ => X.mv) rfl ?_
    refine K.d_pu rfl (fun _ _ => X.mv) rfl ?_
    refine K.d_pu rfl (fun _ _ => X.mv) rfl ?_
    refine K.d_pu rfl (fun _ _ => X.mv) rfl ?_
    refine K.d_pu rfl (fun _ _ => X.mv) rfl ?_
    refine K.d_stE rfl (K.p_slice3L (k2 := .i64) (k3 := .i64) (u := hfQ p c) hsr (by omega) (Fx.und rfl) (Fx.sz rfl) rfl rfl rfl (by omega)) rfl ?_
    intro vl hvl
    refine K.d_pu rfl (fun _ _ => X.sg) rfl ?_
    refine K.d_stE rfl (K.p_sliceL (lo := some (.tmp 54)) (hi := none) (k1 := .i64) (k2 := .i64) (p := hfQ p c) (q := er.length) hsr (Fx.und rfl) (Fx.sz rfl) rfl ⟨_, rfl, rfl⟩ rfl (by omega) (by omega)) rfl ?_
    intro vr hvr
    refine K.d_pu rfl (fun _ _ => X.sg) rfl ?_
    refine K.d_nil ?_
    rw [List.take_length] at hvr
    have hll : (er.take (hfQ p c)).length = hfQ p c := by simp; omega
    have hlr : (er.drop (hfQ p c)).length = p.cells.length + 1 - hfQ p c := by simp; omega
    obtain ⟨al, cl, rfl⟩ := hvl.len
    obtain ⟨arr, cr, rfl⟩ := hvr.len
    have hrl9 := RowC.take hrr (hfQ p c)
    have hrr9 := RowC.drop hrr (hfQ p c)
    by_cases hlt : posQ p c < hfQ p c
    · have elc : lcQ p c = ((rowQ p c).take (hfQ p c)).eraseIdx (posQ p c) := by unfold lcQ; rw [if_pos ⟨hk, hlt⟩]
      have erc : rcQ p c = (rowQ p c).drop (hfQ p c) := by unfold rcQ; rw [if_pos hk, if_pos hlt]
      (repeat' (first | refine X.rq ?_ | (refine X.rc ?_ ?_ <;> intro hc <;> first | (exfalso; omega) | skip)))
      refine K.l_call (Fx.cal rfl) rfl (CloneCells h1 _ (er.take (hfQ p c)) hvl (by omega) (by omega) (fun e he => h1e e (List.mem_of_mem_take he))) (K.pp [] rfl) rfl ?_
      rintro u h3 H' - ⟨e3, b3, cap3, hcap3, rfl, rfl⟩
      obtain rfl := e3.symm
      simp only [List.set_cons_zero, List.set_cons_succ, List.eraseIdx_cons_zero, List.eraseIdx_cons_succ, List.cons_append, List.nil_append]
      (repeat' (first | refine X.rq ?_ | (refine X.rc ?_ ?_ <;> intro hc <;> first | (exfalso; omega) | skip)))
      refine K.l_call (Fx.cal rfl) rfl (Delete h1 b3 (er.take (hfQ p c)) (posQ p c) cap3 (by omega) hcap3 (by omega) (fun e he => h3e e (List.mem_of_mem_take he)) (fun e he => h1e e (List.mem_of_mem_take he))) (K.pp [0] rfl) rfl ?_
      rintro u h3 H' - ⟨e3, rfl, rfl⟩
      obtain rfl := e3.symm
      simp only [List.set_cons_zero, List.set_cons_succ, List.eraseIdx_cons_zero, List.eraseIdx_cons_succ, List.cons_append, List.nil_append]
      have hre := RowC.erase hrl9 (posQ p c)
      refine K.WL.freezeRowN (by rw [hre.1, List.length_eraseIdx, if_pos (by rw [← hrl9.1]; omega), hrl9.1]) hre.2.1 (fun h4 le4 hs4 => ?_)
      (repeat' (first | refine X.rq ?_ | (refine X.rc ?_ ?_ <;> intro hc <;> first | (exfalso; omega) | skip)))
      refine X.sto ?_
      simp only [List.set_cons_zero, List.set_cons_succ, List.eraseIdx_cons_zero, List.eraseIdx_cons_succ, List.cons_append, List.nil_append]
      (repeat' (first | refine X.rq ?_ | (refine X.rc ?_ ?_ <;> intro hc <;> first | (exfalso; omega) | skip)))
      refine X.sto ?_
      simp only [List.set_cons_zero, List.set_cons_succ, List.eraseIdx_cons_zero, List.eraseIdx_cons_succ, List.cons_append, List.nil_append]
      (repeat' (first | refine X.rq ?_ | (refine X.rc ?_ ?_ <;> intro hc <;> first | (exfalso; omega) | skip)))
      refine K.a_cut hJ ⟨h4, bufV (some b3) ((er.take (hfQ p c)).length - 1) cap3, .slice arr (er.drop (hfQ p c)).length cr⟩ ⟨le4, by rw [elc]; exact CellsV.of hs4 (hre.le le4), by rw [erc]; exact CellsV.of (hvr.le le4) (hrr9.le le4)⟩ (by rw [hen]; exact (by repeat (first | exact K.Sub.nil _ | refine K.Sub.cons rfl ?_))) rfl (by rw [hrn]; rfl)
    · have elc : lcQ p c = (rowQ p c).take (hfQ p c) := by unfold lcQ; rw [if_neg (fun h => hlt h.2)]
      have erc : rcQ p c = ((rowQ p c).drop (hfQ p c)).eraseIdx (posQ p c - hfQ p c) := by unfold rcQ; rw [if_pos hk, if_neg hlt]
      have epk : ((posQ p c : Nat) : Int) - ((hfQ p c : Nat) : Int) = ((posQ p c - hfQ p c : Nat) : Int) := by omega
      (repeat' (first | refine X.rq ?_ | (refine X.rc ?_ ?_ <;> intro hc <;> first | (exfalso; omega) | skip)))
      refine K.l_call (Fx.cal rfl) rfl (CloneCells h1 _ (er.drop (hfQ p c)) hvr (by omega) (by omega) (fun e he => h1e e (List.mem_of_mem_drop he))) (K.pp [] rfl) rfl ?_
      rintro u h3 H' - ⟨e3, b3, cap3, hcap3, rfl, rfl⟩
      obtain rfl := e3.symm
      simp only [List.set_cons_zero, List.set_cons_succ, List.eraseIdx_cons_zero, List.eraseIdx_cons_succ, List.cons_append, List.nil_append]
      (repeat' (first | refine X.rq ?_ | (refine X.rc ?_ ?_ <;> intro hc <;> first | (exfalso; omega) | skip)))
      rw [epk]
      refine K.l_call (Fx.cal rfl) rfl (Delete h1 b3 (er.drop (hfQ p c)) (posQ p c - hfQ p c) cap3 (by omega) hcap3 (by omega) (fun e he => h3e e (List.mem_of_mem_drop he)) (fun e he => h1e e (List.mem_of_mem_drop he))) (K.pp [0] rfl) rfl ?_
      rintro u h3 H' - ⟨e3, rfl, rfl⟩
      obtain rfl := e3.symm
      simp only [List.set_cons_zero, List.set_cons_succ, List.eraseIdx_cons_zero, List.eraseIdx_cons_succ, List.cons_append, List.nil_append]
      have hre := RowC.erase hrr9 (posQ p c - hfQ p c)
      refine K.WL.freezeRowN (by rw [hre.1, List.length_eraseIdx, if_pos (by rw [← hrr9.1]; omega), hrr9.1]) hre.2.1 (fun h4 le4 hs4 => ?_)
      (repeat' (first | refine X.rq ?_ | (refine X.rc ?_ ?_ <;> intro hc <;> first | (exfalso; omega) | skip)))
      refine X.sto ?_
      simp only [List.set_cons_zero, List.set_cons_succ, List.eraseIdx_cons_zero, List.eraseIdx_cons_succ, List.cons_append, List.nil_append]
      (repeat' (first | refine X.rq ?_ | (refine X.rc ?_ ?_ <;> intro hc <;> first | (exfalso; omega) | skip)))
      refine X.sto ?_
      simp only [List.set_cons_zero, List.set_cons_succ, List.eraseIdx_cons_zero, List.eraseIdx_cons_succ, List.cons_append, List.nil_append]
      (repeat' (first | refine X.rq ?_ | (refine X.rc ?_ ?_ <;> intro hc <;> first | (exfalso; omega) | skip)))
      refine K.a_cut hJ ⟨h4, .slice al (er.take (hfQ p c)).length cl, bufV (some b3) ((er.drop (hfQ p c)).length - 1) cap3⟩ ⟨le4, by rw [elc]; exact CellsV.of (hvl.le le4) (hrl9.le le4), by rw [erc]; exact CellsV.of hs4 (hre.le le4)⟩ (by rw [hen]; exact (by repeat (first | exact K.Sub.nil _ | refine K.Sub.cons rfl ?_))) rfl (by rw [hrn]; rfl)
  · have h3 : p.kind = 3 := hd.kind.resolve_left hk
    have hen : entQ p c = keyOf (midQ p c) := by unfold entQ keyQ keyOf; rw [if_pos h3]
    have hrn : rnQ p c = childOf (midQ p c) := by unfold rnQ; rw [if_neg hk]
    have elc : lcQ p c = (rowQ p c).take (hfQ p c) := by unfold lcQ; rw [if_neg (fun h => hk h.1)]
    have erc : rcQ p c = (rowQ p c).drop (hfQ p c + 1) := by unfold rcQ; rw [if_neg hk]
    have hm4 := row_big hd h3 _ (mid_mem (p := p) (c := c))
    (repeat' (first | refine X.rq ?_ | (refine X.rc ?_ ?_ <;> intro hc <;> first | (exfalso; omega) | skip)))
    refine K.s_pureE (K.p_indexL hsr (Fx.und rfl) (Fx.sz rfl) rfl rfl (by omega) hecz) rfl ?_
    rintro v2 ⟨b, o, rfl, hcel⟩
    refine K.s_pure (K.p_loadM (Fx.agg rfl) rfl (Cels.up hcel) (Fx.sz rfl) rfl) rfl ?_
    refine K.l_callV (Fx.cal rfl) rfl (SplitC h1 _ _ hcm0 hm4) (K.pp [] rfl) rfl rfl ?_
    simp only [List.set_cons_zero, List.set_cons_succ, List.eraseIdx_cons_zero, List.eraseIdx_cons_succ, List.cons_append, List.nil_append]
    (repeat' (first | refine X.rq ?_ | (refine X.rc ?_ ?_ <;> intro hc <;> first | (exfalso; omega) | skip)))
    refine X.sto ?_
    simp only [List.set_cons_zero, List.set_cons_succ, List.eraseIdx_cons_zero, List.eraseIdx_cons_succ, List.cons_append, List.nil_append]
    (repeat' (first | refine X.rq ?_ | (refine X.rc ?_ ?_ <;> intro hc <;> first | (exfalso; omega) | skip)))
    refine X.draw ([]) [] (.pu 0 (.pu 1 (.pu 2 (.pu 4 (.pu 5 (.pu 6 (.st 3 (.pu 8 (.st 7 (.on 9 (.pu 10 (.on 11 .nil)))))))))))) ?_
    refine K.d_pu rfl (fun _ _ => X.mv) rfl ?_
    refine K.d_pu rfl (fun _ _ => X.mv) rfl ?_
    refine K.d_pu rfl (fun _ _ => X.mv) rfl ?_
    refine K.d_pu rfl (fun _ _ => X.mv) rfl ?_
    refine K.d_pu rfl (fun _ _ => X.mv) rfl ?_
    refine K.d_pu rfl (fun _ _ => X.badd) rfl ?_
    refine K.d_stE rfl (K.p_slice3L (k2 := .i64) (k3 := .i64) (u := hfQ p c) hsr (by omega) (Fx.und rfl) (Fx.sz rfl) rfl rfl rfl (by omega)) rfl ?_
    intro vl hvl
    obtain ⟨al, cl, rfl⟩ := hvl.len
    refine K.d_pu rfl (fun _ _ => X.fa) rfl ?_
    refine K.d_stE rfl (K.p_sliceL (lo := some (.tmp 94)) (hi := none) (k1 := .i64) (k2 := .i64) (p := hfQ p c + 1) (q := er.length) hsr (Fx.und rfl) (Fx.sz rfl) rfl ⟨_, rfl, rfl⟩ rfl (by omega) (by omega)) rfl ?_
    intro vr hvr
    rw [List.take_length] at hvr
    obtain ⟨arr, cr, rfl⟩ := hvr.len
    refine K.d_on rfl (fun KK hKK => ?_)
    refine X.sto ?_
    refine K.l_nil ?_
    refine X.onE hKK ?_
    refine K.d_pu rfl (fun _ _ => X.fa) rfl ?_
    refine K.d_on rfl (fun KK hKK => ?_)
    refine X.sto ?_
    refine K.l_nil ?_
    refine X.onE hKK ?_
    refine K.d_nil ?_
    simp only [List.set_cons_zero, List.set_cons_succ, List.eraseIdx_cons_zero, List.eraseIdx_cons_succ, List.cons_append, List.nil_append]
    (repeat' (first | refine X.rq ?_ | (refine X.rc ?_ ?_ <;> intro hc <;> first | (exfalso; omega) | skip)))
    refine K.a_cut hJ ⟨h1, .slice al (er.take (hfQ p c)).length cl, .slice arr (er.drop (hfQ p c + 1)).length cr⟩ ⟨K.Base.le.refl _, by rw [elc]; exact CellsV.of hvl (RowC.take hrr _), by rw [erc]; exact CellsV.of hvr (RowC.drop hrr _)⟩ (by rw [hen]; exact (by repeat (first | exact K.Sub.nil _ | refine K.Sub.cons rfl ?_))) rfl (by rw [hrn]; rfl)
end Go.Proofs.Ytahdbncfegedjaa.Nd
