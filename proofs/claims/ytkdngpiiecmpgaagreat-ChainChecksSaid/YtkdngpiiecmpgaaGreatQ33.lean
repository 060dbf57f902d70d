/-
 One record is repeated on pages: plainly, and the code. Conditions: each theorem's own.
-/
import Derived.Test.YtkdngpiiecmpgaaGreatQ26
import Derived.Test.YtkdngpiiecmpgaaGreatQ32
namespace Go.Proofs.YtkdngpiiecmpgaaGreat.Ch
open Go Go.K Go.Proofs Go.Proofs.YtkdngpiiecmpgaaGreat Go.Proofs.YtkdngpiiecmpgaaGreat.Pg Go.Proofs.YtkdngpiiecmpgaaGreat.Rc
set_option linter.unusedVariables false
set_option linter.unusedSimpArgs false
set_option maxRecDepth 10000

theorem do_wf1 {p : Pag} {o : POp} (hw : wfP p) (h : (doQ p o).2 = 0) : wfP (doQ p o).1 ∧ mayQ (doQ p o).1 = true := by
 have he : doQ p o = ((doQ p o).1, 0) := Prod.ext rfl h
 have hm := do_may he
 obtain ⟨_, _, hd⟩ := do_ok he
 have hqe : ∃ l, (doQ p o).1 = { p with cells := l } := by
  cases hd with
  | put i hi hw ho hq hc => exact ⟨_, hq⟩
  | mark i x hx hw ho hq => exact ⟨_, hq⟩
  | free i x hx hw ho hq => exact ⟨_, hq⟩
 have h60 := ((mayQ_iff _).1 hm).2.1
 refine ⟨?_, hm⟩
 obtain ⟨l, e⟩ := hqe
 rw [e] at h60 ⊢
 exact ⟨hw.kind, hw.lsn, hw.next, by omega⟩
def opQ (l : List PImg) (r : Recd) : List PImg × Int :=
 if plcB l r.page = true then match l[plcI l r.page]? with
  | none => (l, 6)
  | some x => if r.lsn ≤ x.to.lsn then (l, 0) else if (doQ x.to r.op).2 = 0 then (l.set (plcI l r.page) ⟨x.page, { (doQ x.to r.op).1 with lsn := r.lsn }⟩, 0) else (l, 5)
 else (l, 6)
def imgQ1 (l : List PImg) (lsn : Nat) (m : PImg) : Option (List PImg) :=
 if plcB l m.page = true then match l[plcI l m.page]? with
  | none => none
  | some x => some (if x.to.lsn < lsn then l.set (plcI l m.page) ⟨x.page, { m.to with lsn := lsn }⟩ else l)
 else none
def imgsQ (l : List PImg) (lsn : Nat) : List PImg → List PImg × Int
 | [] => (l, 0)
 | m :: ms => match imgQ1 l lsn m with
  | none => (l, 6)
  | some l' => imgsQ l' lsn ms
def redoQ (l : List PImg) (r : Recd) : List PImg × Int := if r.kind = 2 ∨ r.kind = 3 then opQ l r else if r.kind = 4 then imgsQ l r.lsn r.images else (l, 0)
theorem plc_some {l : List PImg} {n : Nat} (h : plcB l n = true) : ∃ x, l[plcI l n]? = some x ∧ x.page = n := by
 unfold plcB at h
 cases hx : l[plcI l n]? with
 | none => rw [hx] at h; cases h
 | some x => rw [hx] at h; exact ⟨x, rfl, of_decide_eq_true h⟩
theorem set_pages {l : List PImg} {i : Nat} {x : PImg} {q : Pag} (hx : l[i]? = some x) : (l.set i ⟨x.page, q⟩).map PImg.page = l.map PImg.page := by
 rw [List.map_set]
 obtain ⟨hi, rfl⟩ := List.getElem?_eq_some_iff.1 hx
 refine List.ext_getElem (by simp) fun j h1 h2 => ?_
 rw [List.getElem_set]
 split
 ·subst_vars; simp
 ·rfl
theorem imgQ1_pages {l l' : List PImg} {lsn : Nat} {m : PImg} (h : imgQ1 l lsn m = some l') : l'.map PImg.page = l.map PImg.page := by
 unfold imgQ1 at h
 split at h
 ·split at h
  ·cases h
  ·rename_i x hx
   obtain rfl := Option.some.inj h
   split
   ·exact set_pages hx
   ·rfl
 ·cases h
theorem imgsQ_pages : ∀ {ms l : List PImg} {lsn : Nat}, (imgsQ l lsn ms).1.map PImg.page = l.map PImg.page
 | [], _, _ => rfl
 | m :: ms, l, lsn => by
  rw [imgsQ]
  cases h : imgQ1 l lsn m with
  | none => rfl
  | some l' => exact imgsQ_pages.trans (imgQ1_pages h)
theorem redoQ_pages {l : List PImg} {r : Recd} : (redoQ l r).1.map PImg.page = l.map PImg.page := by
 unfold redoQ
 split
 ·unfold opQ
  split
  ·split
   ·rfl
   ·rename_i x hx
    split
    ·rfl
    ·split
     ·exact set_pages hx
     ·rfl
  ·rfl
 ·split
  ·exact imgsQ_pages
  ·rfl
theorem rising_pages {l l' : List PImg} (h : l'.map PImg.page = l.map PImg.page) (hr : Rising PImg.page l) : Rising PImg.page l' := by
 unfold Rising at *
 rw [← List.pairwise_map (f := PImg.page) (R := (· < ·))] at *
 rw [h]; exact hr
theorem RowsG.set {α : Type} {R : List Value → α → Prop} {es : List (List Value)} {l : List α} (h : RowsG R es l) {i : Nat} {c : List Value} {x : α} (hc : R c x) : RowsG R (es.set i c) (l.set i x) := by
 refine ⟨by rw [List.length_set, List.length_set]; exact h.1, fun j d y hd hy => ?_⟩
 rw [List.getElem?_set] at hd hy
 by_cases e : i = j
 ·rw [if_pos e] at hd hy
  split at hd
  ·split at hy
   ·obtain rfl := Option.some.inj hd; obtain rfl := Option.some.inj hy; exact hc
   ·cases hy
  ·cases hd
 ·rw [if_neg e] at hd hy
  exact h.2 j d y hd hy
theorem img_may {x : PImg} (h : imgQ x = true) : smallX x.to.cells := by
 unfold imgQ at h
 rw [Bool.and_eq_true] at h
 obtain ⟨_, h60, hc, _⟩ := (mayQ_iff _).1 h.1
 have hs := small_of (fun i x hi => (hc i x hi).1) (by omega)
 exact ⟨by omega, fun y hy => by have := hs.2 y hy; omega⟩
structure ReS where
 j : Nat
 es : List (List Value)
 l : List PImg
 b : Base
theorem imgs_step {ms l : List PImg} {lsn j : Nat} {m : PImg} (h : ms[j]? = some m) : imgsQ l lsn (ms.drop j) = match imgQ1 l lsn m with
  | none => (l, 6)
  | some l' => imgsQ l' lsn (ms.drop (j + 1)) := by
 obtain ⟨hj, rfl⟩ := List.getElem?_eq_some_iff.1 h
 rw [List.drop_eq_getElem_cons hj]
 rfl
structure DoJ (q : Pag) where
 B : Nat
 b : Option Nat
 cap : Nat
 l : List OC
 hl : q.cells = l.map OC.cell
 hk : okO l
def Redone (h0 h : Base) (a : Option Nat) (n k : Nat) (l : List PImg) (r : Recd) (u : Value) (h' : Base) (H' : List Asrt) : Prop :=
 ∃ es' l' e, u = .int .i64 e ∧ RowsG (ImgG h0 h') es' l' ∧ l'.length = n ∧ H' = [bufA 52 5 a n k es'.flatten] ∧ e = (redoQ l r).2 ∧ (e = 0 → l' = (redoQ l r).1)
theorem imgs_five {h0 h : Base} {es : List (List Value)} {l : List PImg} (hr : RowsG (ImgG h0 h) es l) : ∀ e ∈ es, e.length = 5 := fun e he => by
 obtain ⟨j, hj⟩ := List.mem_iff_getElem?.1 he
 obtain ⟨hje, _⟩ := List.getElem?_eq_some_iff.1 hj
 exact (hr.2 j e (l[j]'(by have := hr.1; omega)) hj (List.getElem?_eq_getElem _)).c.five
theorem FindO (h0 h : Base) (a : Option Nat) (n k : Nat) (es : List (List Value)) (l : List PImg) (m : Nat) (hr : RowsG (ImgG h0 h) es l) (hn : l.length = n) (hl : n ≤ 1000000) (hri : Rising PImg.page l) :
  TrV Tryz.prog 70 [bufV a n k, .int .u32 m] h [bufA 52 5 a n k es.flatten] (.tuple #[.int .i64 (plcI l m : Nat), .bool (plcB l m)]) [bufA 52 5 a n k es.flatten] := by
 have hel := hr.1
 have hen : es.length = n := by omega
 subst hen
 exact K.TrV.borrow (h := h) (A := [bufA 52 5 a es.length k es.flatten]) (R := []) fun h' hle hs =>
  CFind h' (bufV a es.length k) es l m (K.says_sl (imgs_five hr) hs) ⟨hel, fun j c x hc hx => ((hr.2 j c x hc hx).c).le hle⟩ (by omega) hri
set_option maxHeartbeats 16000000 in
theorem CRedo1 (h0 h : Base) (hle0 : h0.le h) (a : Option Nat) (n k : Nat) (es : List (List Value)) (l : List PImg) (cs : List Value) (r : Recd) (hr : RowsG (ImgG h0 h) es l) (hn : l.length = n) (hl : n ≤ 1000000) (hri : Rising PImg.page l)
  (hx : RecC h cs r) (hm : mayR r = true) :
  Tr Tryz.prog 43 [bufV a n k, .agg cs.toArray] h [bufA 52 5 a n k es.flatten] (Redone h0 h a n k l r) := by
 obtain ⟨hw, ad, ai, al, ay, cd, ci, cl, cy, rfl, hb, ⟨eis, hi1, hi2, hi3⟩, hl4, hd2⟩ := hx.cells
 have hlsn := hw.lsn
 have hpg := hw.page
 have hwo := hw.op
 have hlen := hw.images
 have hz := imgs_five hr
 have hel := hr.1
 have hfo := FindO h0 h a n k es l r.page hr hn hl hri
 have hdo := fun (p : Pag) (ps : List Value) (hp : PagC h ps p) => Do h ps (cO r.op (.slice ad r.op.data.length cd)) p r.op hp ⟨hwo, ad, cd, rfl, hb⟩
 refine K.enter Tryz.func43 rfl (Nat.le_of_ble_eq_true rfl) (fun F => ?_)
 simp only [List.nil_append, List.cons_append]
 (repeat' (first | refine X.rq ?_ | (refine X.rc ?_ ?_ <;> intro hc <;> first | (exfalso; omega) | skip)))
 refine K.l_box rfl rfl rfl (fun B3 => ?_)
 by_cases hk : r.kind = 2 ∨ r.kind = 3
 ·have hq : redoQ l r = opQ l r := if_pos hk
  rcases hk with hk | hk
  all_goals
   (repeat' (first | refine X.rq ?_ | (refine X.rc ?_ ?_ <;> intro hc <;> first | (exfalso; omega) | skip)))
   refine K.l_callV (Fx.cal rfl) rfl hfo (K.pp [1] rfl) rfl rfl ?_
   simp only [List.nil_append, List.cons_append]
   cases hpb : plcB l r.page with
   | false =>
    have hq2 : opQ l r = (l, 6) := by unfold opQ; rw [if_neg (by rw [hpb]; decide)]
    (repeat' (first | refine X.rq ?_ | (refine X.rc ?_ ?_ <;> intro hc <;> first | (exfalso; omega) | skip)))
    refine K.AT.sel [1] rfl ?_
    refine K.done (by first | exact Or.inl rfl | exact Or.inr rfl) rfl (by first | exact K.Base.le.refl _ | assumption) (H' := [bufA 52 5 a n k es.flatten]) rfl ⟨es, l, 6, rfl, hr, hn, rfl, by rw [hq, hq2], fun e => by cases e⟩
   | true =>
    obtain ⟨x, hxl, hxp⟩ := plc_some hpb
    have hq2 : opQ l r = if r.lsn ≤ x.to.lsn then (l, 0) else if (doQ x.to r.op).2 = 0 then (l.set (plcI l r.page) ⟨x.page, { (doQ x.to r.op).1 with lsn := r.lsn }⟩, 0) else (l, 5) := by
     unfold opQ; rw [if_pos hpb, hxl]
    generalize plcI l r.page = i at hxl hq2
    obtain ⟨hil, _⟩ := List.getElem?_eq_some_iff.1 hxl
    have hci : es[i]? = some (es[i]'(by omega)) := List.getElem?_eq_getElem (by omega)
    generalize es[i]'(by omega) = c at hci
    obtain ⟨hxg, pcs, rfl, hpf⟩ := hr.2 i c x hci hxl
    have hdx := hdo x.to pcs hpf.c
    have hwp := hpf.1
    have hpl := hwp.lsn
    obtain ⟨_, cv, ec, rfl, hsl5, _⟩ := hpf
    obtain ⟨ao5, ca5, rfl⟩ := hsl5.len
    (repeat' (first | refine X.rq ?_ | (refine X.rc ?_ ?_ <;> intro hc <;> first | (exfalso; omega) | skip)))
    refine K.WC.someBuf 0 rfl (by omega) (fun b hb' => ?_)
    subst hb'
    refine X.draw ([bufA 52 5 (some b) n k es.flatten, blk B3 63 (cR r (.slice ad r.op.data.length cd) (.slice ai r.images.length ci) (.slice al r.lives.length cl) (.slice ay r.dirty.length cy))]) [] (.pu 0 (.pu 1 (.pu 2 (.pu 3 (.pu 4 (.pu 6 (.st 5 (.st 7 (.pu 8 .nil))))))))) ?_
    refine K.d_pu rfl (fun _ _ => X.mv) rfl ?_
    refine K.d_pu rfl (fun _ _ => X.mv) rfl ?_
    refine K.d_pu rfl (fun _ _ => K.p_indexAddr (o' := i * 5) (Fx.und rfl) (Fx.sz rfl) rfl rfl (by omega) (by omega) (by rw [Int.toNat_natCast, Nat.zero_add])) rfl ?_
    refine K.d_pu rfl (fun _ _ => X.fa) rfl ?_
    refine K.d_pu rfl (fun _ _ => X.fa) rfl ?_
    refine K.d_pu rfl (fun _ _ => X.fa) rfl ?_
    refine K.d_st rfl (K.p_load (Fx.agg rfl) rfl (K.cel_rowZ (q := 2) 0 rfl hz hci rfl)) rfl ?_
    refine K.d_st rfl X.ld rfl ?_
    refine K.d_pu rfl (fun _ _ => X.bgeq) rfl ?_
    refine K.d_nil ?_
    by_cases hge : r.lsn ≤ x.to.lsn
    ·rw [if_pos hge] at hq2
     (repeat' (first | refine X.rq ?_ | (refine X.rc ?_ ?_ <;> intro hc <;> first | (exfalso; omega) | skip)))
     refine K.AT.sel [1] rfl ?_
     refine K.done (by first | exact Or.inl rfl | exact Or.inr rfl) rfl (by first | exact K.Base.le.refl _ | assumption) (H' := [bufA 52 5 (some b) n k es.flatten]) rfl ⟨es, l, 0, rfl, hr, hn, rfl, by rw [hq, hq2], fun _ => by rw [hq, hq2]⟩
    ·rw [if_neg hge] at hq2
     (repeat' (first | refine X.rq ?_ | (refine X.rc ?_ ?_ <;> intro hc <;> first | (exfalso; omega) | skip)))
     refine X.drawJ ([bufA 52 5 (some b) n k es.flatten, blk B3 63 (cR r (.slice ad r.op.data.length cd) (.slice ai r.images.length ci) (.slice al r.lives.length cl) (.slice ay r.dirty.length cy))]) [] (.pu 0 (.pu 1 (.pu 2 (.pu 3 (.pu 5 (.st 4 (.st 6 (.alt 7 (.pu 8 (.pu 9 (.pu 10 (.on 11 (.on 12 (.pu 13 .nil)))))) (.on 11 (.on 7 (.pu 8 (.pu 9 (.pu 10 (.on 12 (.pu 13 .nil))))))))))))))) (fun q : DoJ (doQ x.to r.op).1 => [(0, bufV (some b) n k), (3, .pointer (some ⟨B3, 0, none⟩)), (5, .int .i64 i), (7, .pointer (some ⟨q.B, 0, none⟩)), (8, .int .i64 (doQ x.to r.op).2)]) (fun _ => h) (fun q => blk q.B 50 (cP (doQ x.to r.op).1 (bufV q.b q.l.length q.cap)) :: bufA 55 3 q.b q.l.length q.cap (q.l.map rowO).flatten :: all (q.l.map datA) :: bufA 52 5 (some b) n k es.flatten :: blk B3 63 (cR r (.slice ad r.op.data.length cd) (.slice ai r.images.length ci) (.slice al r.lives.length cl) (.slice ay r.dirty.length cy)) :: F) ?_ ?_
     ·refine K.d_pu rfl (fun _ _ => X.mv) rfl ?_
      refine K.d_pu rfl (fun _ _ => X.mv) rfl ?_
      refine K.d_pu rfl (fun _ _ => K.p_indexAddr (o' := i * 5) (Fx.und rfl) (Fx.sz rfl) rfl rfl (by omega) (by omega) (by rw [Int.toNat_natCast, Nat.zero_add])) rfl ?_
      refine K.d_pu rfl (fun _ _ => X.fa) rfl ?_
      refine K.d_pu rfl (fun _ _ => X.fa) rfl ?_
      refine K.d_st rfl (K.p_loadM (Fx.agg rfl) rfl (K.cels_rowZ 0 rfl hz hci).2 (Fx.sz rfl) rfl) rfl ?_
      refine K.d_st rfl (K.p_loadM (Fx.agg rfl) rfl (K.cels_own (pre := [.int .i64 r.kind, .int .u64 r.lsn, .int .u32 r.txn, .int .u64 r.prev, .int .u64 r.undo, .int .u32 r.page, .int .u32 r.root]) (cs := cO r.op (.slice ad r.op.data.length cd)) (post := [.slice ai r.images.length ci, .slice al r.lives.length cl, .slice ay r.dirty.length cy, .int .u32 r.next]) 1 rfl rfl) (Fx.sz rfl) rfl) rfl ?_
      refine K.d_alt ?_ ?_
      ·refine K.d_on rfl (fun KK hKK => ?_)
       refine K.l_call (Fx.cal rfl) rfl hdx (K.pp [] rfl) rfl ?_
       rintro u h' H' - ⟨e, b2, cap2, l2, hl2, hk2, rfl, rfl⟩
       obtain rfl := e.symm
       simp only [pgA, List.nil_append, List.cons_append]
       refine K.l_nil ?_
       refine X.onE hKK ?_
       refine K.d_pu rfl (fun _ _ => X.mv) rfl ?_
       refine K.d_pu rfl (fun _ _ => X.ex) rfl ?_
       refine K.d_pu rfl (fun _ _ => X.ex) rfl ?_
       refine K.d_on rfl (fun KK hKK => ?_)
       refine K.l_alloc (Fx.zr rfl) rfl rfl (fun B7 => ?_)
       refine K.l_nil ?_
       refine X.onE hKK ?_
       refine K.d_on rfl (fun KK hKK => ?_)
       refine X.stw ?_
       simp only [List.set_cons_zero, List.set_cons_succ, List.eraseIdx_cons_zero, List.eraseIdx_cons_succ, List.cons_append, List.nil_append]
       refine K.l_nil ?_
       refine X.onE hKK ?_
       refine K.d_pu rfl (fun _ _ => X.sg) rfl ?_
       refine K.d_nil ?_
       exact K.joined (⟨B7, b2, cap2, l2, hl2, hk2⟩) (by repeat (first | exact K.Sub.nil _ | refine K.Sub.cons rfl ?_)) rfl rfl
      refine K.d_on rfl (fun KK hKK => ?_)
      refine K.l_alloc (Fx.zr rfl) rfl rfl (fun B7 => ?_)
      refine K.l_nil ?_
      refine X.onE hKK ?_
      refine K.d_on rfl (fun KK hKK => ?_)
      refine K.l_call (Fx.cal rfl) rfl hdx (K.pp [] rfl) rfl ?_
      rintro u h' H' - ⟨e, b2, cap2, l2, hl2, hk2, rfl, rfl⟩
      obtain rfl := e.symm
      refine K.WL.perm (K.pp [2] rfl) ?_
      simp only [pgA, List.nil_append, List.cons_append, List.eraseIdx_cons_zero, List.eraseIdx_cons_succ]
      refine K.l_nil ?_
      refine X.onE hKK ?_
      refine K.d_pu rfl (fun _ _ => X.mv) rfl ?_
      refine K.d_pu rfl (fun _ _ => X.ex) rfl ?_
      refine K.d_pu rfl (fun _ _ => X.ex) rfl ?_
      refine K.d_on rfl (fun KK hKK => ?_)
      refine X.stw ?_
      simp only [List.set_cons_zero, List.set_cons_succ, List.eraseIdx_cons_zero, List.eraseIdx_cons_succ, List.cons_append, List.nil_append]
      refine K.l_nil ?_
      refine X.onE hKK ?_
      refine K.d_pu rfl (fun _ _ => X.sg) rfl ?_
      refine K.d_nil ?_
      exact K.joined (⟨B7, b2, cap2, l2, hl2, hk2⟩) (by repeat (first | exact K.Sub.nil _ | refine K.Sub.cons rfl ?_)) rfl rfl
     refine fun q => ?_
     obtain ⟨B7, b2, cap2, l2, hl2, hk2⟩ := q
     dsimp only
     by_cases hde : (doQ x.to r.op).2 = 0
     ·rw [if_pos hde] at hq2
      obtain ⟨hwq, hmq⟩ := do_wf1 (o := r.op) hwp hde
      rw [hde]
      generalize (doQ x.to r.op).1 = q at hl2 hq2 hwq hmq ⊢
      (repeat' (first | refine X.rq ?_ | (refine X.rc ?_ ?_ <;> intro hc <;> first | (exfalso; omega) | skip)))
      refine K.WL.perm (H' := pgA b2 cap2 l2 ++ (blk B7 50 (cP q (bufV b2 l2.length cap2)) :: bufA 52 5 (some b) n k es.flatten :: blk B3 63 (cR r (.slice ad r.op.data.length cd) (.slice ai r.images.length ci) (.slice al r.lives.length cl) (.slice ay r.dirty.length cy)) :: F)) (K.pp [1, 1] rfl) ?_
      refine Ch.WL.freezePg hk2 hwq hl2 (fun h2 le2 hpf2 => ?_)
      refine X.sto ?_
      simp only [List.set_cons_zero, List.set_cons_succ, List.eraseIdx_cons_zero, List.eraseIdx_cons_succ, List.cons_append, List.nil_append]
      (repeat' (first | refine X.rq ?_ | (refine X.rc ?_ ?_ <;> intro hc <;> first | (exfalso; omega) | skip)))
      refine K.l_storePart (i := i) (c1 := [.int .u32 x.page]) (c2 := cP x.to (.slice ao5 ec.length ca5)) (c3 := []) (us := cP { q with lsn := r.lsn } (bufV b2 l2.length cap2)) 1 rfl (Fx.sz rfl) (by show some (Value.pointer (some ⟨b, 0 + ((i : Nat) : Int).toNat * 5 + 1, none⟩)) = _; rw [Nat.zero_add]; rfl) rfl rfl hz hci rfl ?_
      simp only [List.set_cons_zero, List.set_cons_succ, List.eraseIdx_cons_zero, List.eraseIdx_cons_succ, List.cons_append, List.nil_append]
      (repeat' (first | refine X.rq ?_ | (refine X.rc ?_ ?_ <;> intro hc <;> first | (exfalso; omega) | skip)))
      refine K.AT.sel [0, 1] rfl ?_
      refine K.done (by first | exact Or.inl rfl | exact Or.inr rfl) rfl (by first | exact K.Base.le.refl _ | assumption) (H' := [bufA 52 5 (some b) n k _]) rfl ⟨es.set i ([.int .u32 x.page] ++ cP { q with lsn := r.lsn } (bufV b2 l2.length cap2) ++ []), l.set i ⟨x.page, { q with lsn := r.lsn }⟩, 0, rfl, RowsG.set (RowsG.mono (fun c y hc => hc.le (.refl _) le2) hr) ⟨hxg, _, (List.append_nil _).trans rfl, (hpf2.lsn hlsn).le hle0 (.refl _)⟩, by rw [List.length_set]; exact hn, rfl, by rw [hq, hq2], fun _ => by rw [hq, hq2]⟩
     ·rw [if_neg hde] at hq2
      generalize hdv : (doQ x.to r.op).2 = dv at hde ⊢
      (repeat' (first | refine X.rq ?_ | (refine X.rc ?_ ?_ <;> intro hc <;> first | (exfalso; omega) | skip)))
      refine K.AT.sel [0, 0, 0, 1] rfl ?_
      refine K.done (by first | exact Or.inl rfl | exact Or.inr rfl) rfl (by first | exact K.Base.le.refl _ | assumption) (H' := [bufA 52 5 (some b) n k es.flatten]) rfl ⟨es, l, 5, rfl, hr, hn, rfl, by rw [hq, hq2], fun e => by cases e⟩
 ·by_cases hk4 : r.kind = 4
  ·have hq : redoQ l r = imgsQ l r.lsn r.images := by unfold redoQ; rw [if_neg hk, if_pos hk4]
   have himg := fun (_ : Unit) => (show ∀ x ∈ r.images, imgQ x = true by
    unfold mayR at hm
    rw [Bool.and_eq_true, decide_eq_true_eq] at hm
    exact hm.1.2.2.2.2.2.2.1)
   have hi3 := fun (_ : Unit) => hi3
   clear hdo hfo hb hl4 hd2 hx hm hz
   (repeat' (first | refine X.rq ?_ | (refine X.rc ?_ ?_ <;> intro hc <;> first | (exfalso; omega) | skip)))
   refine K.WC.perm (K.pp [1, 0] rfl) ?_
   simp only [List.cons_append, List.nil_append]
   refine K.c_loop (σ := ReS) (fun q => [(0, bufV a n k), (3, .pointer (some ⟨B3, 0, none⟩)), (60, .slice ai r.images.length ci), (61, .int .i64 r.images.length), (62, .int .i64 q.j)]) (fun q => q.b)
    (fun q => bufA 52 5 a n k q.es.flatten :: blk B3 63 (cR r (.slice ad r.op.data.length cd) (.slice ai r.images.length ci) (.slice al r.lives.length cl) (.slice ay r.dirty.length cy)) :: F)
    (fun q => q.j ≤ r.images.length ∧ h.le q.b ∧ RowsG (ImgG h0 q.b) q.es q.l ∧ q.l.map PImg.page = l.map PImg.page ∧ imgsQ l r.lsn r.images = imgsQ q.l r.lsn (r.images.drop q.j)) (fun q => r.images.length - q.j)
    ⟨0, es, l, h⟩ ⟨Nat.zero_le _, .refl _, hr, rfl, rfl⟩ (by repeat (first | exact K.Sub.nil _ | refine K.Sub.cons rfl ?_)) ?_ ?_ ?_
   ·first | rfl | exact K.Base.le.refl _
   ·rfl
   rintro ⟨j, es1, l1, h1⟩ ⟨hj, le1, hr1, hpp, hqi⟩ KL hKL
   dsimp only at hj le1 hr1 hpp hqi ⊢
   have hn1 : l1.length = n := by have := congrArg List.length hpp; rw [List.length_map, List.length_map] at this; omega
   have hel1 := hr1.1
   have hz1 := imgs_five hr1
   have hri1 := rising_pages hpp hri
   by_cases hjl : j < r.images.length
   ·have hc1 : eis[j]? = some (eis[j]'(by omega)) := List.getElem?_eq_getElem (by omega)
    have hc0 : eis[((j : Nat) : Int).toNat]? = some (eis[j]'(by omega)) := by rw [Int.toNat_natCast]; exact hc1
    have hx1 : r.images[j]? = some (r.images[j]'(by omega)) := List.getElem?_eq_getElem (by omega)
    have hmx := himg () _ (List.getElem_mem (h := hjl))
    generalize eis[j]'(by omega) = ce at hc0 hc1
    generalize r.images[j]'(by omega) = m at hx1 hmx
    obtain ⟨hmg, pcs, rfl, hpm⟩ := hi3 () j ce m hc1 hx1
    have hpm1 := hpm.le le1
    have hown := COwn h1 pcs m.to hpm1 (img_may hmx)
    have hwm := hpm.1
    obtain ⟨_, cv, rfl, em, hsm5, _⟩ := hpm
    obtain ⟨ao5, ca5, rfl⟩ := hsm5.len
    rw [imgs_step hx1] at hqi
    have hfo := FindO h0 h1 a n k es1 l1 m.page hr1 hn1 hl hri1
    have hi1' := hi1.le le1
    (repeat' (first | refine X.rq ?_ | (refine X.rc ?_ ?_ <;> intro hc <;> first | (exfalso; omega) | skip)))
    refine K.s_pureE (K.p_indexL hi1' (Fx.und rfl) (Fx.sz rfl) rfl rfl (by omega) hc0) rfl ?_
    rintro v2 ⟨b2', o2, rfl, hcel⟩
    refine K.s_pure (K.p_loadM (Fx.agg rfl) rfl (Cels.up hcel) (Fx.sz rfl) rfl) rfl ?_
    refine K.l_alloc (Fx.zr rfl) rfl rfl (fun B10 => ?_)
    refine X.stw ?_
    simp only [List.set_cons_zero, List.set_cons_succ, List.eraseIdx_cons_zero, List.eraseIdx_cons_succ, List.cons_append, List.nil_append]
    (repeat' (first | refine X.rq ?_ | (refine X.rc ?_ ?_ <;> intro hc <;> first | (exfalso; omega) | skip)))
    refine K.l_callV (Fx.cal rfl) rfl hfo (K.pp [1] rfl) rfl rfl ?_
    simp only [List.nil_append, List.cons_append, List.eraseIdx_cons_zero, List.eraseIdx_cons_succ]
    cases hpb : plcB l1 m.page with
    | false =>
     have hq2 : imgQ1 l1 r.lsn m = none := by unfold imgQ1; rw [if_neg (by rw [hpb]; decide)]
     rw [hq2] at hqi
     (repeat' (first | refine X.rq ?_ | (refine X.rc ?_ ?_ <;> intro hc <;> first | (exfalso; omega) | skip)))
     refine K.AT.sel [1, 1] rfl ?_
     refine K.done (by first | exact Or.inl rfl | exact Or.inr rfl) rfl (by first | exact K.Base.le.refl _ | assumption) (H' := [bufA 52 5 a n k es1.flatten]) rfl ⟨es1, l1, 6, rfl, hr1, hn1, rfl, by rw [hq, hqi], fun e => by cases e⟩
    | true =>
     obtain ⟨x, hxl, hxp⟩ := plc_some hpb
     have hq2 : imgQ1 l1 r.lsn m = some (if x.to.lsn < r.lsn then l1.set (plcI l1 m.page) ⟨x.page, { m.to with lsn := r.lsn }⟩ else l1) := by
      unfold imgQ1; rw [if_pos hpb, hxl]
     have hpp2 := imgQ1_pages hq2
     rw [hq2] at hqi
     dsimp only at hqi
     generalize plcI l1 m.page = i at hxl hqi hpp2 ⊢
     obtain ⟨hil, _⟩ := List.getElem?_eq_some_iff.1 hxl
     have hci : es1[i]? = some (es1[i]'(by omega)) := List.getElem?_eq_getElem (by omega)
     have hies : i < es1.length := by omega
     generalize es1[i]'(by omega) = c at hci
     obtain ⟨hxg, qcs, rfl, hpf⟩ := hr1.2 i c x hci hxl
     have hpl := hpf.1.lsn
     obtain ⟨_, cv6, ec, rfl, hsl6, _⟩ := hpf
     obtain ⟨ao6, ca6, rfl⟩ := hsl6.len
     (repeat' (first | refine X.rq ?_ | (refine X.rc ?_ ?_ <;> intro hc <;> first | (exfalso; omega) | skip)))
     refine K.WC.someBuf 0 rfl (by omega) (fun b hb' => ?_)
     subst hb'
     refine X.draw ([bufA 52 5 (some b) n k es1.flatten, blk B3 63 (cR r (.slice ad r.op.data.length cd) (.slice ai r.images.length ci) (.slice al r.lives.length cl) (.slice ay r.dirty.length cy))]) [] (.pu 0 (.pu 1 (.pu 2 (.pu 3 (.pu 4 (.pu 6 (.st 5 (.st 7 (.pu 8 .nil))))))))) ?_
     refine K.d_pu rfl (fun _ _ => X.mv) rfl ?_
     refine K.d_pu rfl (fun _ _ => X.mv) rfl ?_
     refine K.d_pu rfl (fun _ _ => K.p_indexAddr (o' := i * 5) (Fx.und rfl) (Fx.sz rfl) rfl rfl (by omega) (by omega) (by rw [Int.toNat_natCast, Nat.zero_add])) rfl ?_
     refine K.d_pu rfl (fun _ _ => X.fa) rfl ?_
     refine K.d_pu rfl (fun _ _ => X.fa) rfl ?_
     refine K.d_pu rfl (fun _ _ => X.fa) rfl ?_
     refine K.d_st rfl (K.p_load (Fx.agg rfl) rfl (K.cel_rowZ (q := 2) 0 rfl hz1 hci rfl)) rfl ?_
     refine K.d_st rfl X.ld rfl ?_
     refine K.d_pu rfl (fun _ _ => X.blss) rfl ?_
     refine K.d_nil ?_
     by_cases hlt : x.to.lsn < r.lsn
     ·rw [if_pos hlt] at hqi hpp2
      (repeat' (first | refine X.rq ?_ | (refine X.rc ?_ ?_ <;> intro hc <;> first | (exfalso; omega) | skip)))
      refine K.s_pure (K.p_loadM (Fx.agg rfl) rfl (K.cels_own (pre := [.int .u32 m.page]) (cs := cP m.to (.slice ao5 em.length ca5)) (post := []) 1 rfl rfl) (Fx.sz rfl) rfl) rfl ?_
      refine K.l_call (Fx.cal rfl) rfl hown (K.pp [] rfl) rfl ?_
      rintro u h' H' - ⟨e, b2, cap2, l2, hl2, hk2, rfl, rfl⟩
      obtain rfl := e.symm
      have hll : m.to.cells.length = l2.length := by rw [hl2, List.length_map]
      rw [hll]
      refine Ch.WL.freezePg hk2 hwm hl2 (fun h2 le2 hpf2 => ?_)
      (repeat' (first | refine X.rq ?_ | (refine X.rc ?_ ?_ <;> intro hc <;> first | (exfalso; omega) | skip)))
      refine K.l_storePart (i := i) (c1 := [.int .u32 x.page]) (c2 := cP x.to (.slice ao6 ec.length ca6)) (c3 := []) (us := cP m.to (bufV b2 l2.length cap2)) 0 rfl (Fx.sz rfl) (by show some (Value.pointer (some ⟨b, 0 + ((i : Nat) : Int).toNat * 5 + 1, none⟩)) = _; rw [Nat.zero_add]; rfl) rfl rfl hz1 hci rfl ?_
      simp only [List.set_cons_zero, List.set_cons_succ, List.eraseIdx_cons_zero, List.eraseIdx_cons_succ, List.cons_append, List.nil_append]
      (repeat' (first | refine X.rq ?_ | (refine X.rc ?_ ?_ <;> intro hc <;> first | (exfalso; omega) | skip)))
      refine K.l_storePart1 (i := i) (q := 2) (c := [.int .u32 x.page] ++ cP m.to (bufV b2 l2.length cap2) ++ []) 0 rfl (Fx.sz rfl) (by show some (Value.pointer (some ⟨b, 0 + ((i : Nat) : Int).toNat * 5 + 1 + 1, none⟩)) = _; rw [Nat.zero_add]; rfl) rfl rfl (fun e he => ?_) (List.getElem?_set_self hies) (by show 2 < 5; decide) ?_
      ·rcases List.mem_or_eq_of_mem_set he with he | rfl
       ·exact hz1 e he
       ·rfl
      rw [List.set_set]
      simp only [List.set_cons_zero, List.set_cons_succ, List.eraseIdx_cons_zero, List.eraseIdx_cons_succ, List.cons_append, List.nil_append]
      (repeat' (first | refine X.rq ?_ | (refine X.rc ?_ ?_ <;> intro hc <;> first | (exfalso; omega) | skip)))
      refine K.AT.sel [1] rfl ?_
      refine K.a_round hKL ⟨j + 1, _, l1.set i ⟨x.page, { m.to with lsn := r.lsn }⟩, h2⟩ ⟨by dsimp only; omega, le1.trans le2, RowsG.set (RowsG.mono (fun c y hc => hc.le (.refl _) le2) hr1) ⟨hxg, cP { m.to with lsn := r.lsn } (bufV b2 l2.length cap2), rfl, (hpf2.lsn hlsn).le (hle0.trans le1) (.refl _)⟩, by dsimp only; rw [hpp2, hpp], hqi⟩ (by repeat (first | exact K.Sub.nil _ | refine K.Sub.cons rfl ?_)) rfl rfl (by dsimp only; omega)
     ·rw [if_neg hlt] at hqi hpp2
      (repeat' (first | refine X.rq ?_ | (refine X.rc ?_ ?_ <;> intro hc <;> first | (exfalso; omega) | skip)))
      refine K.AT.sel [1] rfl ?_
      refine K.a_round hKL ⟨j + 1, es1, l1, h1⟩ ⟨by dsimp only; omega, le1, hr1, hpp, hqi⟩ (by repeat (first | exact K.Sub.nil _ | refine K.Sub.cons rfl ?_)) rfl rfl (by dsimp only; omega)
   ·obtain rfl : j = r.images.length := by omega
    rw [List.drop_length] at hqi
    have hqi : imgsQ l r.lsn r.images = (l1, 0) := hqi
    (repeat' (first | refine X.rq ?_ | (refine X.rc ?_ ?_ <;> intro hc <;> first | (exfalso; omega) | skip)))
    refine K.AT.sel [1] rfl ?_
    refine K.done (by first | exact Or.inl rfl | exact Or.inr rfl) rfl (by first | exact K.Base.le.refl _ | assumption) (H' := [bufA 52 5 a n k es1.flatten]) rfl ⟨es1, l1, 0, rfl, hr1, hn1, rfl, by rw [hq, hqi], fun _ => by rw [hq, hqi]⟩
  ·have hq : redoQ l r = (l, 0) := by unfold redoQ; rw [if_neg hk, if_neg hk4]
   have hk2 : r.kind ≠ 2 := fun e => hk (.inl e)
   have hk3 : r.kind ≠ 3 := fun e => hk (.inr e)
   (repeat' (first | refine X.rq ?_ | (refine X.rc ?_ ?_ <;> intro hc <;> first | (exfalso; omega) | skip)))
   refine K.AT.sel [0] rfl ?_
   refine K.done (by first | exact Or.inl rfl | exact Or.inr rfl) rfl (by first | exact K.Base.le.refl _ | assumption) (H' := [bufA 52 5 a n k es.flatten]) rfl ⟨es, l, 0, rfl, hr, hn, rfl, by rw [hq], fun _ => by rw [hq]⟩
end Go.Proofs.YtkdngpiiecmpgaaGreat.Ch
