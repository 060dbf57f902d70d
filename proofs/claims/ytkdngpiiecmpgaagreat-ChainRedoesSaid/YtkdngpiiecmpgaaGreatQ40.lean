/-
 Records are repeated on pages: the document. Conditions: each theorem's own.
-/
import Derived.Test.YtkdngpiiecmpgaaGreatQ36
import Derived.Test.YtkdngpiiecmpgaaGreatQ39
namespace Go.Proofs.YtkdngpiiecmpgaaGreat.Ch
open Go Go.K Go.Proofs Go.Proofs.YtkdngpiiecmpgaaGreat Go.Proofs.YtkdngpiiecmpgaaGreat.Pg Go.Proofs.YtkdngpiiecmpgaaGreat.Rc
set_option linter.unusedVariables false
set_option linter.unusedSimpArgs false
set_option maxRecDepth 10000

theorem zero_eq (p : Pag) : zeroQ p = decide (p = ⟨0, 0, 0, []⟩) := by
 unfold zeroQ
 obtain ⟨a, b, c, d⟩ := p
 rw [Bool.eq_iff_iff]
 simp only [Bool.and_eq_true, decide_eq_true_eq, Pag.mk.injEq, List.length_eq_zero_iff]
 constructor
 ·rintro ⟨⟨⟨h1, h2⟩, h3⟩, h4⟩; exact ⟨h1, h2, h3, h4⟩
 ·rintro ⟨h1, h2, h3, h4⟩; exact ⟨⟨⟨h1, h2⟩, h3⟩, h4⟩
theorem zero_page (h : Base) : PagC h (cP ⟨0, 0, 0, []⟩ (.slice none 0 0)) ⟨0, 0, 0, []⟩ := ⟨⟨by decide, by decide, by decide, by decide⟩, _, rfl, [], SL.nil, rfl, fun j c x hc => by cases hc⟩
theorem imgs_fiveC {h : Base} {es : List (List Value)} {l : List PImg} (hr : RowsG (ImgC h) es l) : ∀ e ∈ es, e.length = 5 := fun e he => by
 obtain ⟨j, hj⟩ := List.mem_iff_getElem?.1 he
 obtain ⟨hje, _⟩ := List.getElem?_eq_some_iff.1 hj
 exact (hr.2 j e (l[j]'(by have := hr.1; omega)) hj (List.getElem?_eq_getElem _)).five
theorem PlaceO (h : Base) (a : Option Nat) (n k : Nat) (es : List (List Value)) (l : List PImg) (m : Nat) (hr : RowsG (ImgC h) es l) (hn : l.length = n) (hl : n ≤ 1000000) :
  TrV Tryz.prog 46 [bufV a n k, .int .u32 m] h [bufA 52 5 a n k es.flatten] (.int .i64 (placeQ l m)) [bufA 52 5 a n k es.flatten] := by
 have hel := hr.1
 have hen : es.length = n := by omega
 subst hen
 exact K.TrV.borrow (h := h) (A := [bufA 52 5 a es.length k es.flatten]) (R := []) fun h' hle hs =>
  RPlace h' (bufV a es.length k) es l m (K.says_sl (imgs_fiveC hr) hs) ⟨hel, fun j c x hc hx => (hr.2 j c x hc hx).le hle⟩ (by omega)
def RRedone (l : List PImg) (rs : List Recd) (f : Nat) (u : Value) (h' : Base) (H' : List Asrt) : Prop :=
 ((RedoQ l rs f).2 ≠ 0 ∧ u = .tuple #[.slice none 0 0, .int .i64 (RedoQ l rs f).2] ∧ H' = []) ∨
 ((RedoQ l rs f).2 = 0 ∧ ∃ a n k es, n = (RedoQ l rs f).1.length ∧ RowsG (ImgC h') es (RedoQ l rs f).1 ∧ u = .tuple #[bufV a n k, .int .i64 0] ∧ H' = [bufA 52 5 a n k es.flatten])
structure ChkS where
 j : Nat
 last : Nat
structure OpJ where
 es : List (List Value)
 l : List PImg
 b : Base
structure DrJ (h2 : Base) (q : Pag) where
 B : Nat
 a : Option Nat
 cap : Nat
 es : List (List Value)
 b : Base
 hle : h2.le b
 hrow : RowC b es q.cells
structure ImJ where
 k : Nat
 es : List (List Value)
 l : List PImg
 b : Base
def opR (l : List PImg) (r : Recd) : List PImg × Int := if r.kind = 2 ∨ r.kind = 3 then opQ l r else (l, 0)
theorem redo_parts {l : List PImg} {r : Recd} (hm : mayR r = true) : redoQ l r = if (opR l r).2 ≠ 0 then opR l r else imgsQ (opR l r).1 r.lsn r.images := by
 unfold mayR at hm
 rw [Bool.and_eq_true, decide_eq_true_eq] at hm
 have hb := hm.1.2.1
 unfold redoQ opR
 by_cases hk : r.kind = 2 ∨ r.kind = 3
 ·rw [if_pos hk, if_pos hk]
  have h0 : r.images = [] := List.eq_nil_of_length_eq_zero (hb.shape (by omega))
  rw [h0]
  split
  ·rfl
  ·rename_i he
   exact Prod.ext rfl (Classical.not_not.1 he)
 ·rw [if_neg hk, if_neg hk]
  by_cases hk4 : r.kind = 4
  ·rw [if_pos hk4, if_neg (fun h => h rfl)]
  ·rw [if_neg hk4, if_neg (fun h => h rfl)]
   have h0 : r.images = [] := List.eq_nil_of_length_eq_zero (hb.shape hk4)
   rw [h0]
   rfl
set_option maxHeartbeats 32000000 in
theorem RRedo (h : Base) (v w : Value) (es : List (List Value)) (l : List PImg) (ers : List (List Value)) (rs : List Recd) (f : Nat) (hv : SL h 5 v es) (hr : RowsG (ImgC h) es l) (hl : l.length ≤ 1000000)
  (hv2 : SL h 15 w ers) (hr2 : RowsG (RecC h) ers rs) (hl2 : rs.length ≤ 9223372036854775807) (hs : ∀ x ∈ rs, smallR x) (hf : f < 18446744073709551616) :
  Tr Tryz.prog 17 [v, w, .int .u64 f] h [] (RRedone l rs f) := by
 have hel := hr.1
 have hel2 := hr2.1
 have hcopy := RCopyI h v es l hv hr hl
 have hri := RefRight h w ers rs hv2 hr2 hl2 hs
 obtain ⟨ao, ca, rfl⟩ := hv.len
 obtain ⟨ao2, ca2, rfl⟩ := hv2.len
 rw [hel] at hv hcopy ⊢
 rw [hel2] at hv2 hri ⊢
 have hr := fun (_ : Unit) => hr
 have hr2 := fun (_ : Unit) => hr2
 refine K.enter Tryz.func17 rfl (Nat.le_of_ble_eq_true rfl) (fun F => ?_)
 simp only [List.nil_append, List.cons_append]
 (repeat' (first | refine X.rq ?_ | (refine X.rc ?_ ?_ <;> intro hc <;> first | (exfalso; omega) | skip)))
 refine K.c_loop (σ := ChkS) (fun q => [(0, .slice ao l.length ca), (1, .slice ao2 rs.length ca2), (2, .int .u64 f), (8, .int .u32 q.last), (9, .int .i64 q.j)]) (fun _ => h) (fun _ => F)
  (fun q => q.j ≤ l.length ∧ pagesQ 0 l = pagesQ q.last (l.drop q.j)) (fun q => l.length - q.j) ⟨0, 0⟩ ⟨Nat.zero_le _, rfl⟩ (by repeat (first | exact K.Sub.nil _ | refine K.Sub.cons rfl ?_)) rfl rfl ?_
 rintro ⟨j, last⟩ ⟨hj, hpq⟩ KL hKL
 dsimp only at hj hpq ⊢
 by_cases hjl : j < l.length
 ·have hc1 : es[j]? = some (es[j]'(by omega)) := List.getElem?_eq_getElem (by omega)
  have hx1 : l[j]? = some (l[j]'(by omega)) := List.getElem?_eq_getElem (by omega)
  generalize es[j]'(by omega) = ce at hc1
  generalize l[j]'(by omega) = x at hx1
  obtain ⟨hxg, pcs, rfl, hpx⟩ := (hr ()).2 j ce x hc1 hx1
  have hmay := RMay h pcs x.to hpx
  have hsam := SameP h pcs _ x.to _ hpx (zero_page h)
  rw [← zero_eq] at hsam
  obtain ⟨_, cv, rfl, ex, hsx5, _⟩ := hpx
  obtain ⟨ao5, ca5, rfl⟩ := hsx5.len
  rw [pages_step hx1] at hpq
  obtain ⟨bb, oo, rfl, hcx⟩ := hv.at hc1
  have g0 := Cels.get (Cels.up (K := F) hcx) 0 (.int .u32 x.page) rfl
  by_cases hlt : last < x.page
  ·rw [decide_eq_true hlt, Bool.true_and] at hpq
   (repeat' (first | refine X.rq ?_ | (refine X.rc ?_ ?_ <;> intro hc <;> first | (exfalso; omega) | skip)))
   refine K.s_pure (K.p_loadM (Fx.agg rfl) rfl (Cels.up hcx).2 (Fx.sz rfl) rfl) rfl ?_
   (repeat' (first | refine X.rq ?_ | (refine X.rc ?_ ?_ <;> intro hc <;> first | (exfalso; omega) | skip)))
   refine K.l_callV (Fx.cal rfl) rfl hmay (K.pp [] rfl) rfl rfl ?_
   simp only [List.nil_append]
   cases hmq : mayQ x.to with
   | true =>
    rw [hmq, Bool.true_or, Bool.true_and] at hpq
    (repeat' (first | refine X.rq ?_ | (refine X.rc ?_ ?_ <;> intro hc <;> first | (exfalso; omega) | skip)))
    refine K.a_round hKL ⟨j + 1, x.page⟩ ⟨by dsimp only; omega, hpq⟩ (by repeat (first | exact K.Sub.nil _ | refine K.Sub.cons rfl ?_)) rfl rfl (by dsimp only; omega)
   | false =>
    rw [hmq, Bool.false_or] at hpq
    (repeat' (first | refine X.rq ?_ | (refine X.rc ?_ ?_ <;> intro hc <;> first | (exfalso; omega) | skip)))
    refine K.s_pure (K.p_loadM (Fx.agg rfl) rfl (Cels.up hcx).2 (Fx.sz rfl) rfl) rfl ?_
    (repeat' (first | refine X.rq ?_ | (refine X.rc ?_ ?_ <;> intro hc <;> first | (exfalso; omega) | skip)))
    refine K.l_callV (Fx.cal rfl) rfl hsam (K.pp [] rfl) rfl rfl ?_
    simp only [List.nil_append]
    cases hzq : zeroQ x.to with
    | false =>
     rw [hzq, Bool.false_and] at hpq
     have hQ : RedoQ l rs f = ([], 1) := by unfold RedoQ; rw [if_pos hpq]
     (repeat' (first | refine X.rq ?_ | (refine X.rc ?_ ?_ <;> intro hc <;> first | (exfalso; omega) | skip)))
     refine K.done (by first | exact Or.inl rfl | exact Or.inr rfl) rfl (by first | exact K.Base.le.refl _ | assumption) (H' := []) rfl (.inl ⟨by rw [hQ]; decide, by rw [hQ]; rfl, rfl⟩)
    | true =>
     rw [hzq, Bool.true_and] at hpq
     (repeat' (first | refine X.rq ?_ | (refine X.rc ?_ ?_ <;> intro hc <;> first | (exfalso; omega) | skip)))
     refine K.a_round hKL ⟨j + 1, x.page⟩ ⟨by dsimp only; omega, hpq⟩ (by repeat (first | exact K.Sub.nil _ | refine K.Sub.cons rfl ?_)) rfl rfl (by dsimp only; omega)
  ·rw [decide_eq_false hlt, Bool.false_and, Bool.false_and] at hpq
   have hQ : RedoQ l rs f = ([], 1) := by unfold RedoQ; rw [if_pos hpq]
   (repeat' (first | refine X.rq ?_ | (refine X.rc ?_ ?_ <;> intro hc <;> first | (exfalso; omega) | skip)))
   refine K.done (by first | exact Or.inl rfl | exact Or.inr rfl) rfl (by first | exact K.Base.le.refl _ | assumption) (H' := []) rfl (.inl ⟨by rw [hQ]; decide, by rw [hQ]; rfl, rfl⟩)
 ·obtain rfl : j = l.length := by omega
  rw [List.drop_length] at hpq
  have hpq : pagesQ 0 l = true := hpq
  obtain ⟨hrise, _, hmz⟩ := pages_rise hpq
  have hcopy := hcopy fun m hm => small_page (hmz m hm)
  clear hmz
  (repeat' (first | refine X.rq ?_ | (refine X.rc ?_ ?_ <;> intro hc <;> first | (exfalso; omega) | skip)))
  refine K.l_callV (Fx.cal rfl) rfl hri (K.pp [] rfl) rfl rfl ?_
  simp only [List.nil_append]
  cases hrq : rightQ 0 rs with
  | false =>
   have hQ : RedoQ l rs f = ([], 5) := by unfold RedoQ; rw [if_neg (by rw [hpq]; decide), if_pos hrq]
   (repeat' (first | refine X.rq ?_ | (refine X.rc ?_ ?_ <;> intro hc <;> first | (exfalso; omega) | skip)))
   refine K.done (by first | exact Or.inl rfl | exact Or.inr rfl) rfl (by first | exact K.Base.le.refl _ | assumption) (H' := []) rfl (.inl ⟨by rw [hQ]; decide, by rw [hQ]; rfl, rfl⟩)
  | true =>
   have hQ : RedoQ l rs f = redosQ f l rs := by unfold RedoQ; rw [if_neg (by rw [hpq]; decide), if_neg (by rw [hrq]; decide)]
   have hmr := fun (_ : Unit) => right_all hrq
   (repeat' (first | refine X.rq ?_ | (refine X.rc ?_ ?_ <;> intro hc <;> first | (exfalso; omega) | skip)))
   refine K.l_call (Fx.cal rfl) rfl hcopy (K.pp [] rfl) rfl ?_
   rintro u h1 H' le1 ⟨a, k, es1, rfl, hr1, rfl⟩
   simp only [List.nil_append, List.cons_append]
   (repeat' (first | refine X.rq ?_ | (refine X.rc ?_ ?_ <;> intro hc <;> first | (exfalso; omega) | skip)))
   refine K.c_loop (σ := RunS) (fun q => [(1, .slice ao2 rs.length ca2), (2, .int .u64 f), (10, bufV a l.length k), (11, .int .i64 q.j)]) (fun q => q.b) (fun q => bufA 52 5 a l.length k q.es.flatten :: F)
    (fun q => q.j ≤ rs.length ∧ h.le q.b ∧ RowsG (ImgC q.b) q.es q.l ∧ q.l.map PImg.page = l.map PImg.page ∧ RedoQ l rs f = redosQ f q.l (rs.drop q.j)) (fun q => rs.length - q.j)
    ⟨0, es1, l, h1⟩ ⟨Nat.zero_le _, le1, hr1, rfl, hQ⟩ (by repeat (first | exact K.Sub.nil _ | refine K.Sub.cons rfl ?_)) rfl rfl ?_
   rintro ⟨j, es2, l2, h2⟩ ⟨hj2, le2, hr2', hpp, hqq⟩ KM hKM
   dsimp only at hj2 le2 hr2' hpp hqq ⊢
   have hn2 : l2.length = l.length := by have := congrArg List.length hpp; rwa [List.length_map, List.length_map] at this
   by_cases hjl2 : j < rs.length
   ·have hc1 : ers[j]? = some (ers[j]'(by omega)) := List.getElem?_eq_getElem (by omega)
    have hx1 : rs[j]? = some (rs[j]'hjl2) := List.getElem?_eq_getElem hjl2
    have hmx := (hmr () _ (List.getElem_mem hjl2)).1
    generalize ers[j]'(by omega) = ce at hc1
    generalize rs[j]'hjl2 = r at hx1 hmx
    have hxc := ((hr2 ()).2 j ce r hc1 hx1).le le2
    rw [redos_step hx1] at hqq
    have hrp := redo_parts (l := l2) hmx
    obtain ⟨hw, ad, ai, al, ay, cd, ci, cl, cy, rfl, hb, ⟨eis, hi1, hi2, hi3⟩, _, _⟩ := hxc.cells
    have hlsn := hw.lsn
    have hpg := hw.page
    have hwo := hw.op
    have himl := hw.images
    have himg := fun (_ : Unit) => (show ∀ x ∈ r.images, imgQ x = true by
     unfold mayR at hmx
     rw [Bool.and_eq_true, decide_eq_true_eq] at hmx
     exact hmx.1.2.2.2.2.2.2.1)
    have hi3 := fun (_ : Unit) => hi3
    clear hxc hmx hw
    obtain ⟨bb, oo, rfl, hcx⟩ := (hv2.le le2).at hc1
    (repeat' (first | refine X.rq ?_ | (refine X.rc ?_ ?_ <;> intro hc <;> first | (exfalso; omega) | skip)))
    refine K.s_pure (K.p_loadM (Fx.agg rfl) rfl (Cels.up hcx) (Fx.sz rfl) rfl) rfl ?_
    refine K.l_alloc (Fx.zr rfl) rfl rfl (fun B12 => ?_)
    refine X.stw ?_
    simp only [List.set_cons_zero, List.set_cons_succ, List.eraseIdx_cons_zero, List.eraseIdx_cons_succ, List.cons_append, List.nil_append]
    by_cases hlf : r.lsn < f
    ·rw [if_pos hlf] at hqq
     (repeat' (first | refine X.rq ?_ | (refine X.rc ?_ ?_ <;> intro hc <;> first | (exfalso; omega) | skip)))
     refine K.AT.drop ?_
     refine K.a_round hKM ⟨j + 1, es2, l2, h2⟩ ⟨by dsimp only; omega, le2, hr2', hpp, hqq⟩ (by repeat (first | exact K.Sub.nil _ | refine K.Sub.cons rfl ?_)) rfl rfl (by dsimp only; omega)
    ·rw [if_neg hlf] at hqq
     (repeat' (first | refine X.rs ?_ | (refine X.rd ?_ ?_ <;> intro hc <;> first | (exfalso; omega) | skip)))
     apply K.c_seq
     apply K.c_seq
     refine X.w ?_
     (repeat' (first | refine X.rs ?_ | (refine X.rd ?_ ?_ <;> intro hc <;> first | (exfalso; omega) | skip)))
     apply K.c_seq
     refine K.c_join (β := OpJ) (fun q => [(1, .slice (some ⟨bb, oo, none⟩) rs.length ca2), (2, .int .u64 f), (10, bufV a l.length k), (11, .int .i64 j), (12, .pointer (some ⟨B12, 0, none⟩))]) (fun q => q.b) (fun q => blk B12 63 (cR r (.slice ad r.op.data.length cd) (.slice ai r.images.length ci) (.slice al r.lives.length cl) (.slice ay r.dirty.length cy)) :: bufA 52 5 a l.length k q.es.flatten :: F)
      (fun q => h2.le q.b ∧ RowsG (ImgC q.b) q.es q.l ∧ q.l.map PImg.page = l2.map PImg.page ∧ opR l2 r = (q.l, 0)) (fun KJ hJ => ?_) ?_
     ·have hz := imgs_fiveC hr2'
      have hri2 := rising_pages hpp hrise
      have hel3 := hr2'.1
      have herr : ∀ e : Int, e ≠ 0 → opR l2 r = (l2, e) → RedoQ l rs f = ([], e) := fun e he ho => by
       rw [ho, if_pos he] at hrp
       rw [hqq, hrp, if_pos he]
      by_cases hk : r.kind = 2 ∨ r.kind = 3
      ·have ho0 : opR l2 r = opQ l2 r := by unfold opR; rw [if_pos hk]
       have hpl := PlaceO h2 a l.length k es2 l2 r.page hr2' hn2 hl
       rw [place_plc hri2] at hpl
       rcases hk with hk | hk
       all_goals
        (repeat' (first | refine X.rq ?_ | (refine X.rc ?_ ?_ <;> intro hc <;> first | (exfalso; omega) | skip)))
        refine K.l_callV (Fx.cal rfl) rfl hpl (K.pp [1] rfl) rfl rfl ?_
        simp only [List.nil_append, List.cons_append, List.eraseIdx_cons_zero, List.eraseIdx_cons_succ]
        cases hpb : plcB l2 r.page with
        | false =>
         have hq2 : opQ l2 r = (l2, 6) := by unfold opQ; rw [if_neg (by rw [hpb]; decide)]
         have hQ := herr 6 (by decide) (by rw [ho0, hq2])
         rw [if_neg (by decide)]
         (repeat' (first | refine X.rq ?_ | (refine X.rc ?_ ?_ <;> intro hc <;> first | (exfalso; omega) | skip)))
         refine K.AT.sel [0, 0] rfl ?_
         refine K.done (by first | exact Or.inl rfl | exact Or.inr rfl) rfl (by first | exact K.Base.le.refl _ | assumption) (H' := []) rfl (.inl ⟨by rw [hQ]; decide, by rw [hQ]; rfl, rfl⟩)
        | true =>
         rw [if_pos rfl]
         obtain ⟨x, hxl, hxp⟩ := plc_some hpb
         have hq2 : opQ l2 r = if r.lsn ≤ x.to.lsn then (l2, 0) else if (doQ x.to r.op).2 = 0 then (l2.set (plcI l2 r.page) ⟨x.page, { (doQ x.to r.op).1 with lsn := r.lsn }⟩, 0) else (l2, 5) := by
          unfold opQ; rw [if_pos hpb, hxl]
         generalize plcI l2 r.page = i at hxl hq2
         obtain ⟨hil, _⟩ := List.getElem?_eq_some_iff.1 hxl
         have hci : es2[i]? = some (es2[i]'(by omega)) := List.getElem?_eq_getElem (by omega)
         generalize es2[i]'(by omega) = c at hci
         obtain ⟨hxg, pcs, rfl, hpf⟩ := hr2'.2 i c x hci hxl
         have hdx := RDo h2 pcs (cO r.op (.slice ad r.op.data.length cd)) x.to r.op hpf ⟨hwo, ad, cd, rfl, hb⟩
         have hwp := hpf.1
         have hpl := hwp.lsn
         obtain ⟨_, cv, rfl, ec, hsl5, _⟩ := hpf
         obtain ⟨ao5, ca5, rfl⟩ := hsl5.len
         (repeat' (first | refine X.rq ?_ | (refine X.rc ?_ ?_ <;> intro hc <;> first | (exfalso; omega) | skip)))
         refine K.WC.someBuf 0 rfl (by omega) (fun b hb' => ?_)
         subst hb'
         refine X.draw ([bufA 52 5 (some b) l.length k es2.flatten, blk B12 63 (cR r (.slice ad r.op.data.length cd) (.slice ai r.images.length ci) (.slice al r.lives.length cl) (.slice ay r.dirty.length cy))]) [] (.pu 0 (.pu 1 (.pu 2 (.pu 3 (.pu 4 (.pu 6 (.st 5 (.st 7 (.pu 8 .nil))))))))) ?_
         refine K.d_pu rfl (fun _ _ => X.mv) rfl ?_
         refine K.d_pu rfl (fun _ _ => X.mv) rfl ?_
         refine K.d_pu rfl (fun _ _ => K.p_indexAddr (o' := i * 5) (Fx.und rfl) (Fx.sz rfl) rfl rfl (by omega) (by omega) (by rw [Int.toNat_natCast, Nat.zero_add])) rfl ?_
         refine K.d_pu rfl (fun _ _ => X.fa) rfl ?_
         refine K.d_pu rfl (fun _ _ => X.fa) rfl ?_
         refine K.d_pu rfl (fun _ _ => X.fa) rfl ?_
         refine K.d_st rfl (K.p_load (Fx.agg rfl) rfl (K.cel_rowZ (q := 2) 0 rfl hz hci rfl)) rfl ?_
         refine K.d_st rfl X.ld rfl ?_
         refine K.d_pu rfl (fun _ _ => X.blss) rfl ?_
         refine K.d_nil ?_
         by_cases hge : r.lsn ≤ x.to.lsn
         ·rw [if_pos hge] at hq2
          (repeat' (first | refine X.rq ?_ | (refine X.rc ?_ ?_ <;> intro hc <;> first | (exfalso; omega) | skip)))
          refine K.AT.perm (K.pp [1, 0] rfl) ?_
          simp only [List.nil_append, List.cons_append]
          exact K.a_join hJ ⟨es2, l2, h2⟩ ⟨.refl _, hr2', rfl, by rw [ho0, hq2]⟩ (by repeat (first | exact K.Sub.nil _ | refine K.Sub.cons rfl ?_)) rfl rfl
         ·rw [if_neg hge] at hq2
          (repeat' (first | refine X.rq ?_ | (refine X.rc ?_ ?_ <;> intro hc <;> first | (exfalso; omega) | skip)))
          refine X.drawJ ([bufA 52 5 (some b) l.length k es2.flatten, blk B12 63 (cR r (.slice ad r.op.data.length cd) (.slice ai r.images.length ci) (.slice al r.lives.length cl) (.slice ay r.dirty.length cy))]) [] (.pu 0 (.pu 1 (.pu 2 (.pu 3 (.pu 5 (.st 4 (.st 6 (.alt 7 (.pu 8 (.pu 9 (.pu 10 (.on 11 (.on 12 (.pu 13 .nil)))))) (.on 11 (.on 7 (.pu 8 (.pu 9 (.pu 10 (.on 12 (.pu 13 .nil))))))))))))))) (fun q : DrJ h2 (doQ x.to r.op).1 => [(1, .slice (some ⟨bb, oo, none⟩) rs.length ca2), (2, .int .u64 f), (10, bufV (some b) l.length k), (11, .int .i64 j), (12, .pointer (some ⟨B12, 0, none⟩)), (13, .int .i64 i), (14, .pointer (some ⟨q.B, 0, none⟩)), (15, .int .i64 (doQ x.to r.op).2)]) (fun q => q.b) (fun q => blk q.B 50 (cP (doQ x.to r.op).1 (bufV q.a (doQ x.to r.op).1.cells.length q.cap)) :: bufA 55 3 q.a (doQ x.to r.op).1.cells.length q.cap q.es.flatten :: bufA 52 5 (some b) l.length k es2.flatten :: blk B12 63 (cR r (.slice ad r.op.data.length cd) (.slice ai r.images.length ci) (.slice al r.lives.length cl) (.slice ay r.dirty.length cy)) :: F) ?_ ?_
          ·refine K.d_pu rfl (fun _ _ => X.mv) rfl ?_
           refine K.d_pu rfl (fun _ _ => X.mv) rfl ?_
           refine K.d_pu rfl (fun _ _ => K.p_indexAddr (o' := i * 5) (Fx.und rfl) (Fx.sz rfl) rfl rfl (by omega) (by omega) (by rw [Int.toNat_natCast, Nat.zero_add])) rfl ?_
           refine K.d_pu rfl (fun _ _ => X.fa) rfl ?_
           refine K.d_pu rfl (fun _ _ => X.fa) rfl ?_
           refine K.d_st rfl (K.p_loadM (Fx.agg rfl) rfl (K.cels_rowZ 0 rfl hz hci).2 (Fx.sz rfl) rfl) rfl ?_
           refine K.d_st rfl (K.p_loadM (Fx.agg rfl) rfl (K.cels_own (pre := [.int .i64 r.kind, .int .u64 r.lsn, .int .u32 r.txn, .int .u64 r.prev, .int .u64 r.undo, .int .u32 r.page, .int .u32 r.root]) (cs := cO r.op (.slice ad r.op.data.length cd)) (post := [.slice ai r.images.length ci, .slice al r.lives.length cl, .slice ay r.dirty.length cy, .int .u32 r.next]) 1 rfl rfl) (Fx.sz rfl) rfl) rfl ?_
           refine K.d_alt ?_ ?_
           ·refine K.d_on rfl (fun KK hKK => ?_)
            refine K.l_call (Fx.cal rfl) rfl hdx (K.pp [] rfl) rfl ?_
            rintro u h3 H' - ⟨le3, a2, cap2, fs, rfl, hrow, rfl⟩
            simp only [List.nil_append, List.cons_append]
            refine K.l_nil ?_
            refine X.onE hKK ?_
            refine K.d_pu rfl (fun _ _ => X.mv) rfl ?_
            refine K.d_pu rfl (fun _ _ => X.ex) rfl ?_
            refine K.d_pu rfl (fun _ _ => X.ex) rfl ?_
            refine K.d_on rfl (fun KK hKK => ?_)
            refine K.l_alloc (Fx.zr rfl) rfl rfl (fun B14 => ?_)
            refine K.l_nil ?_
            refine X.onE hKK ?_
            refine K.d_on rfl (fun KK hKK => ?_)
            refine X.stw ?_
            simp only [List.set_cons_zero, List.set_cons_succ, List.eraseIdx_cons_zero, List.eraseIdx_cons_succ, List.cons_append, List.nil_append]
            refine K.l_nil ?_
            refine X.onE hKK ?_
            refine K.d_pu rfl (fun _ _ => X.sg) rfl ?_
            refine K.d_nil ?_
            exact K.joined (⟨B14, a2, cap2, fs, h3, le3, hrow⟩) (by repeat (first | exact K.Sub.nil _ | refine K.Sub.cons rfl ?_)) rfl rfl
           refine K.d_on rfl (fun KK hKK => ?_)
           refine K.l_alloc (Fx.zr rfl) rfl rfl (fun B14 => ?_)
           refine K.l_nil ?_
           refine X.onE hKK ?_
           refine K.d_on rfl (fun KK hKK => ?_)
           refine K.l_call (Fx.cal rfl) rfl hdx (K.pp [] rfl) rfl ?_
           rintro u h3 H' - ⟨le3, a2, cap2, fs, rfl, hrow, rfl⟩
           refine K.WL.perm (K.pp [1] rfl) ?_
           simp only [List.nil_append, List.cons_append, List.eraseIdx_cons_zero, List.eraseIdx_cons_succ]
           refine K.l_nil ?_
           refine X.onE hKK ?_
           refine K.d_pu rfl (fun _ _ => X.mv) rfl ?_
           refine K.d_pu rfl (fun _ _ => X.ex) rfl ?_
           refine K.d_pu rfl (fun _ _ => X.ex) rfl ?_
           refine K.d_on rfl (fun KK hKK => ?_)
           refine X.stw ?_
           simp only [List.set_cons_zero, List.set_cons_succ, List.eraseIdx_cons_zero, List.eraseIdx_cons_succ, List.cons_append, List.nil_append]
           refine K.l_nil ?_
           refine X.onE hKK ?_
           refine K.d_pu rfl (fun _ _ => X.sg) rfl ?_
           refine K.d_nil ?_
           exact K.joined (⟨B14, a2, cap2, fs, h3, le3, hrow⟩) (by repeat (first | exact K.Sub.nil _ | refine K.Sub.cons rfl ?_)) rfl rfl
          refine fun q => ?_
          obtain ⟨B14, a2, cap2, fs, h3, le3, hrow⟩ := q
          dsimp only
          have le23 := le2.trans le3
          by_cases hde : (doQ x.to r.op).2 = 0
          ·rw [if_pos hde] at hq2
           obtain ⟨hwq, hmq⟩ := do_wf1 (o := r.op) hwp hde
           rw [hde]
           generalize (doQ x.to r.op).1 = q at hrow hq2 hwq hmq ⊢
           (repeat' (first | refine X.rq ?_ | (refine X.rc ?_ ?_ <;> intro hc <;> first | (exfalso; omega) | skip)))
           refine K.WL.perm (K.pp [1] rfl) ?_
           simp only [List.nil_append, List.cons_append, List.eraseIdx_cons_zero, List.eraseIdx_cons_succ]
           refine K.WL.freezeRowN hrow.1.symm hrow.2.1 (fun h4 le4 hsl4 => ?_)
           refine X.sto ?_
           simp only [List.set_cons_zero, List.set_cons_succ, List.eraseIdx_cons_zero, List.eraseIdx_cons_succ, List.cons_append, List.nil_append]
           (repeat' (first | refine X.rq ?_ | (refine X.rc ?_ ?_ <;> intro hc <;> first | (exfalso; omega) | skip)))
           refine K.l_storePart (i := i) (c1 := [.int .u32 x.page]) (c2 := cP x.to (.slice ao5 ec.length ca5)) (c3 := []) (us := cP { q with lsn := r.lsn } (bufV a2 q.cells.length cap2)) 1 rfl (Fx.sz rfl) (by show some (Value.pointer (some ⟨b, 0 + ((i : Nat) : Int).toNat * 5 + 1, none⟩)) = _; rw [Nat.zero_add]; rfl) rfl rfl hz hci rfl ?_
           simp only [List.set_cons_zero, List.set_cons_succ, List.eraseIdx_cons_zero, List.eraseIdx_cons_succ, List.cons_append, List.nil_append]
           (repeat' (first | refine X.rq ?_ | (refine X.rc ?_ ?_ <;> intro hc <;> first | (exfalso; omega) | skip)))
           refine K.AT.sel [0] rfl ?_
           refine K.AT.perm (K.pp [1, 0] rfl) ?_
           simp only [List.nil_append, List.cons_append]
           exact K.a_join hJ ⟨es2.set i ([.int .u32 x.page] ++ cP { q with lsn := r.lsn } (bufV a2 q.cells.length cap2) ++ []), l2.set i ⟨x.page, { q with lsn := r.lsn }⟩, h4⟩ ⟨le3.trans le4, RowsG.set (RowsG.mono (fun c y hc => hc.le (le3.trans le4)) hr2') ⟨hxg, _, (List.append_nil _).trans rfl, ⟨hwq.kind, hlsn, hwq.next, hwq.len⟩, _, rfl, fs, hsl4, hrow.1, fun j c y u v => (hrow.2.2 j c y u v).le le4⟩, set_pages hxl, by rw [ho0, hq2]⟩ (by repeat (first | exact K.Sub.nil _ | refine K.Sub.cons rfl ?_)) rfl rfl
          ·rw [if_neg hde] at hq2
           have hQ := herr 5 (by decide) (by rw [ho0, hq2])
           generalize hdv : (doQ x.to r.op).2 = dv at hde ⊢
           (repeat' (first | refine X.rq ?_ | (refine X.rc ?_ ?_ <;> intro hc <;> first | (exfalso; omega) | skip)))
           refine K.AT.sel [0, 0, 0, 0] rfl ?_
           refine K.done (by first | exact Or.inl rfl | exact Or.inr rfl) rfl (by first | exact K.Base.le.refl _ | assumption) (H' := []) rfl (.inl ⟨by rw [hQ]; decide, by rw [hQ]; rfl, rfl⟩)
      ·have ho0 : opR l2 r = (l2, 0) := by unfold opR; rw [if_neg hk]
       have hk2 : r.kind ≠ 2 := fun e => hk (.inl e)
       have hk3 : r.kind ≠ 3 := fun e => hk (.inr e)
       (repeat' (first | refine X.rq ?_ | (refine X.rc ?_ ?_ <;> intro hc <;> first | (exfalso; omega) | skip)))
       exact K.a_join hJ ⟨es2, l2, h2⟩ ⟨.refl _, hr2', rfl, ho0⟩ (by repeat (first | exact K.Sub.nil _ | refine K.Sub.cons rfl ?_)) rfl rfl
     ·rintro ⟨es3, l3, h3⟩ ⟨le3, hr3, hp3, hop⟩
      dsimp only at le3 hr3 hp3 hop ⊢
      rw [hop, if_neg (fun h => h rfl)] at hrp
      clear hop hb
      have hi1' := hi1.le le3
      have le13 := le2.trans le3
      (repeat' (first | refine X.rq ?_ | (refine X.rc ?_ ?_ <;> intro hc <;> first | (exfalso; omega) | skip)))
      refine K.c_loop (σ := ImJ) (fun q => [(1, .slice (some ⟨bb, oo, none⟩) rs.length ca2), (2, .int .u64 f), (10, bufV a l.length k), (11, .int .i64 j), (12, .pointer (some ⟨B12, 0, none⟩)), (16, .int .i64 q.k)]) (fun q => q.b) (fun q => blk B12 63 (cR r (.slice ad r.op.data.length cd) (.slice ai r.images.length ci) (.slice al r.lives.length cl) (.slice ay r.dirty.length cy)) :: bufA 52 5 a l.length k q.es.flatten :: F)
       (fun q => q.k ≤ r.images.length ∧ h3.le q.b ∧ RowsG (ImgC q.b) q.es q.l ∧ q.l.map PImg.page = l3.map PImg.page ∧ imgsQ l3 r.lsn r.images = imgsQ q.l r.lsn (r.images.drop q.k)) (fun q => r.images.length - q.k)
       ⟨0, es3, l3, h3⟩ ⟨Nat.zero_le _, .refl _, hr3, rfl, rfl⟩ (by repeat (first | exact K.Sub.nil _ | refine K.Sub.cons rfl ?_)) rfl rfl ?_
      rintro ⟨q, es4, l4, h4⟩ ⟨hq0, le4, hr4, hp4, hqi⟩ KI hKI
      dsimp only at hq0 le4 hr4 hp4 hqi ⊢
      have hpa : l4.map PImg.page = l.map PImg.page := by rw [hp4, hp3, hpp]
      have hn4 : l4.length = l.length := by have := congrArg List.length hpa; rwa [List.length_map, List.length_map] at this
      have hz4 := imgs_fiveC hr4
      have hel4 := hr4.1
      have le14 := le13.trans le4
      by_cases hql : q < r.images.length
      ·have hc2 : eis[q]? = some (eis[q]'(by omega)) := List.getElem?_eq_getElem (by omega)
       have hx2 : r.images[q]? = some (r.images[q]'hql) := List.getElem?_eq_getElem hql
       have hmx := himg () _ (List.getElem_mem hql)
       generalize eis[q]'(by omega) = ci2 at hc2
       generalize r.images[q]'hql = m at hx2 hmx
       obtain ⟨hmg, pcs, rfl, hpm⟩ := hi3 () q ci2 m hc2 hx2
       have hcp := CopyPageX h4 pcs m.to (hpm.le (le3.trans le4)) (img_may hmx)
       have hwm := hpm.1
       obtain ⟨_, cv, rfl, em, hsm5, _⟩ := hpm
       obtain ⟨ao7, ca7, rfl⟩ := hsm5.len
       rw [imgs_step hx2] at hqi
       have hpl := PlaceO h4 a l.length k es4 l4 m.page hr4 hn4 hl
       rw [place_plc (rising_pages hpa hrise)] at hpl
       have hi1q := hi1'.le le4
       (repeat' (first | refine X.rq ?_ | (refine X.rc ?_ ?_ <;> intro hc <;> first | (exfalso; omega) | skip)))
       refine K.s_pureE (K.p_indexL hi1q (Fx.und rfl) (Fx.sz rfl) rfl rfl (by omega) (by rw [Int.toNat_natCast]; exact hc2)) rfl ?_
       rintro v2 ⟨b2', o2, rfl, hcel⟩
       have hcg := Cels.get (Cels.up (K := blk B12 63 (cR r (.slice ad r.op.data.length cd) (.slice ai r.images.length ci) (.slice al r.lives.length cl) (.slice ay r.dirty.length cy)) :: bufA 52 5 a l.length k es4.flatten :: F) hcel) 0 (.int .u32 m.page) rfl
       (repeat' (first | refine X.rq ?_ | (refine X.rc ?_ ?_ <;> intro hc <;> first | (exfalso; omega) | skip)))
       refine K.l_callV (Fx.cal rfl) rfl hpl (K.pp [1] rfl) rfl rfl ?_
       simp only [List.nil_append, List.cons_append, List.eraseIdx_cons_zero, List.eraseIdx_cons_succ]
       cases hpb : plcB l4 m.page with
       | false =>
        have hq2 : imgQ1 l4 r.lsn m = none := by unfold imgQ1; rw [if_neg (by rw [hpb]; decide)]
        rw [hq2] at hqi
        dsimp only at hqi
        have hQ : RedoQ l rs f = ([], 6) := by rw [hqq, hrp, hqi, if_pos (by simp)]
        rw [if_neg (by decide)]
        (repeat' (first | refine X.rq ?_ | (refine X.rc ?_ ?_ <;> intro hc <;> first | (exfalso; omega) | skip)))
        refine K.AT.sel [0, 0] rfl ?_
        refine K.done (by first | exact Or.inl rfl | exact Or.inr rfl) rfl (by first | exact K.Base.le.refl _ | assumption) (H' := []) rfl (.inl ⟨by rw [hQ]; decide, by rw [hQ]; rfl, rfl⟩)
       | true =>
        rw [if_pos rfl]
        obtain ⟨x, hxl, hxp⟩ := plc_some hpb
        have hq2 : imgQ1 l4 r.lsn m = some (if x.to.lsn < r.lsn then l4.set (plcI l4 m.page) ⟨x.page, { m.to with lsn := r.lsn }⟩ else l4) := by
         unfold imgQ1; rw [if_pos hpb, hxl]
        have hpp2 := imgQ1_pages hq2
        rw [hq2] at hqi
        dsimp only at hqi
        generalize plcI l4 m.page = i at hxl hqi hpp2 ⊢
        obtain ⟨hil, _⟩ := List.getElem?_eq_some_iff.1 hxl
        have hies : i < es4.length := by omega
        have hci : es4[i]? = some (es4[i]'hies) := List.getElem?_eq_getElem hies
        generalize es4[i]'hies = c at hci
        obtain ⟨hxg, qcs, rfl, hpf⟩ := hr4.2 i c x hci hxl
        have hpl := hpf.1.lsn
        obtain ⟨_, cv6, rfl, ec, hsl6, _⟩ := hpf
        obtain ⟨ao6, ca6, rfl⟩ := hsl6.len
        (repeat' (first | refine X.rq ?_ | (refine X.rc ?_ ?_ <;> intro hc <;> first | (exfalso; omega) | skip)))
        refine K.WC.someBuf 0 rfl (by omega) (fun b hb' => ?_)
        subst hb'
        refine X.draw ([bufA 52 5 (some b) l.length k es4.flatten, blk B12 63 (cR r (.slice ad r.op.data.length cd) (.slice ai r.images.length ci) (.slice al r.lives.length cl) (.slice ay r.dirty.length cy))]) [] (.pu 0 (.pu 1 (.pu 2 (.pu 3 (.pu 4 (.pu 6 (.st 5 (.st 7 (.pu 8 .nil))))))))) ?_
        refine K.d_pu rfl (fun _ _ => X.mv) rfl ?_
        refine K.d_pu rfl (fun _ _ => X.mv) rfl ?_
        refine K.d_pu rfl (fun _ _ => K.p_indexAddr (o' := i * 5) (Fx.und rfl) (Fx.sz rfl) rfl rfl (by omega) (by omega) (by rw [Int.toNat_natCast, Nat.zero_add])) rfl ?_
        refine K.d_pu rfl (fun _ _ => X.fa) rfl ?_
        refine K.d_pu rfl (fun _ _ => X.fa) rfl ?_
        refine K.d_pu rfl (fun _ _ => X.fa) rfl ?_
        refine K.d_st rfl (K.p_load (Fx.agg rfl) rfl (K.cel_rowZ (q := 2) 0 rfl hz4 hci rfl)) rfl ?_
        refine K.d_st rfl X.ld rfl ?_
        refine K.d_pu rfl (fun _ _ => X.blss) rfl ?_
        refine K.d_nil ?_
        by_cases hlt : x.to.lsn < r.lsn
        ·rw [if_pos hlt] at hqi hpp2
         (repeat' (first | refine X.rq ?_ | (refine X.rc ?_ ?_ <;> intro hc <;> first | (exfalso; omega) | skip)))
         refine K.s_pureE (K.p_indexL hi1q (Fx.und rfl) (Fx.sz rfl) rfl rfl (by omega) (by rw [Int.toNat_natCast]; exact hc2)) rfl ?_
         rintro v3 ⟨b3', o3, rfl, hcel3⟩
         (repeat' (first | refine X.rq ?_ | (refine X.rc ?_ ?_ <;> intro hc <;> first | (exfalso; omega) | skip)))
         refine K.s_pure (K.p_loadM (Fx.agg rfl) rfl (Cels.up hcel3).2 (Fx.sz rfl) rfl) rfl ?_
         (repeat' (first | refine X.rq ?_ | (refine X.rc ?_ ?_ <;> intro hc <;> first | (exfalso; omega) | skip)))
         refine K.l_call (Fx.cal rfl) rfl hcp (K.pp [] rfl) rfl ?_
         rintro u h5 H' le5 ⟨a2, c2, fs, rfl, hrow, rfl⟩
         simp only [List.nil_append, List.cons_append]
         refine K.WL.freezeRowN hrow.1.symm hrow.2.1 (fun h6 le6 hsl6' => ?_)
         have le15 := le14.trans (le5.trans le6)
         (repeat' (first | refine X.rq ?_ | (refine X.rc ?_ ?_ <;> intro hc <;> first | (exfalso; omega) | skip)))
         refine K.l_storePart (i := i) (c1 := [.int .u32 x.page]) (c2 := cP x.to (.slice ao6 ec.length ca6)) (c3 := []) (us := cP m.to (bufV a2 m.to.cells.length c2)) 0 rfl (Fx.sz rfl) (by show some (Value.pointer (some ⟨b, 0 + ((i : Nat) : Int).toNat * 5 + 1, none⟩)) = _; rw [Nat.zero_add]; rfl) rfl rfl hz4 hci rfl ?_
         simp only [List.set_cons_zero, List.set_cons_succ, List.eraseIdx_cons_zero, List.eraseIdx_cons_succ, List.cons_append, List.nil_append]
         (repeat' (first | refine X.rq ?_ | (refine X.rc ?_ ?_ <;> intro hc <;> first | (exfalso; omega) | skip)))
         refine K.l_storePart1 (i := i) (q := 2) (c := [.int .u32 x.page] ++ cP m.to (bufV a2 m.to.cells.length c2) ++ []) 0 rfl (Fx.sz rfl) (by show some (Value.pointer (some ⟨b, 0 + ((i : Nat) : Int).toNat * 5 + 1 + 1, none⟩)) = _; rw [Nat.zero_add]; rfl) rfl rfl (fun e he => ?_) (List.getElem?_set_self hies) (by show 2 < 5; decide) ?_
         ·rcases List.mem_or_eq_of_mem_set he with he | rfl
          ·exact hz4 e he
          ·rfl
         rw [List.set_set]
         simp only [List.set_cons_zero, List.set_cons_succ, List.eraseIdx_cons_zero, List.eraseIdx_cons_succ, List.cons_append, List.nil_append]
         (repeat' (first | refine X.rq ?_ | (refine X.rc ?_ ?_ <;> intro hc <;> first | (exfalso; omega) | skip)))
         refine K.AT.perm (K.pp [1, 0] rfl) ?_
         simp only [List.nil_append, List.cons_append]
         refine K.a_round hKI ⟨q + 1, _, l4.set i ⟨x.page, { m.to with lsn := r.lsn }⟩, h6⟩ ⟨by dsimp only; omega, le4.trans (le5.trans le6), RowsG.set (RowsG.mono (fun c y hc => hc.le (le5.trans le6)) hr4) ⟨hxg, cP { m.to with lsn := r.lsn } (bufV a2 m.to.cells.length c2), rfl, ⟨hwm.kind, hlsn, hwm.next, hwm.len⟩, _, rfl, fs, hsl6', hrow.1, fun j c y u v => (hrow.2.2 j c y u v).le le6⟩, by dsimp only; rw [hpp2, hp4], hqi⟩ (by repeat (first | exact K.Sub.nil _ | refine K.Sub.cons rfl ?_)) rfl rfl (by dsimp only; omega)
        ·rw [if_neg hlt] at hqi hpp2
         (repeat' (first | refine X.rq ?_ | (refine X.rc ?_ ?_ <;> intro hc <;> first | (exfalso; omega) | skip)))
         refine K.AT.perm (K.pp [1, 0] rfl) ?_
         simp only [List.nil_append, List.cons_append]
         refine K.a_round hKI ⟨q + 1, es4, l4, h4⟩ ⟨by dsimp only; omega, le4, hr4, hp4, hqi⟩ (by repeat (first | exact K.Sub.nil _ | refine K.Sub.cons rfl ?_)) rfl rfl (by dsimp only; omega)
      ·obtain rfl : q = r.images.length := by omega
       rw [List.drop_length] at hqi
       have hqi : imgsQ l3 r.lsn r.images = (l4, 0) := hqi
       rw [hqi] at hrp
       rw [hrp, if_neg (fun h => h rfl)] at hqq
       (repeat' (first | refine X.rq ?_ | (refine X.rc ?_ ?_ <;> intro hc <;> first | (exfalso; omega) | skip)))
       refine K.AT.drop ?_
       refine K.a_round hKM ⟨j + 1, es4, l4, h4⟩ ⟨by dsimp only; omega, le14, hr4, hpa, hqq⟩ (by repeat (first | exact K.Sub.nil _ | refine K.Sub.cons rfl ?_)) rfl rfl (by dsimp only; omega)
   ·obtain rfl : j = rs.length := by omega
    rw [List.drop_length] at hqq
    have hqq : RedoQ l rs f = (l2, 0) := hqq
    (repeat' (first | refine X.rq ?_ | (refine X.rc ?_ ?_ <;> intro hc <;> first | (exfalso; omega) | skip)))
    refine K.done (by first | exact Or.inl rfl | exact Or.inr rfl) rfl (by first | exact K.Base.le.refl _ | assumption) (H' := [bufA 52 5 a l.length k es2.flatten]) rfl (.inr ⟨by rw [hqq], a, l.length, k, es2, by rw [hqq, hn2], by rw [hqq]; exact hr2', rfl, rfl⟩)
end Go.Proofs.YtkdngpiiecmpgaaGreat.Ch
