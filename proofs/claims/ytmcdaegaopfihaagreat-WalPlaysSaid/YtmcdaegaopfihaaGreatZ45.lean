/-
  Texts joined: Ae Ak Al. Conditions: each theorem's own.
-/
import Derived.Test.YtmcdaegaopfihaaGreatZ44
import Derived.Test.YtmcdaegaopfihaaGreatZ39
import Derived.Test.YtmcdaegaopfihaaGreatZ40
import Derived.Test.YtmcdaegaopfihaaGreatZ31
section
namespace Go.Proofs.YtmcdaegaopfihaaGreat.Wl
open Go Go.K Go.Proofs Go.Proofs.YtmcdaegaopfihaaGreat Go.Proofs.YtmcdaegaopfihaaGreat.Cc Go.Proofs.YtmcdaegaopfihaaGreat.Rc
set_option linter.unusedVariables false
set_option linter.unusedSimpArgs false
set_option maxRecDepth 10000

theorem Run.cut {D : Dk} {L : Lg} {rs : List Recd} {m : Nat} (h : Run D L rs m) : Run D ⟨L.m, bytesQ (rs.take m), startsQ L.m.base (rs.take m), L.durable⟩ (rs.take m) m := by
 have hl := len_take_le rs m
 have h1 := h.fin'
 have h2 := h.len
 have ht : (rs.take m).take m = rs.take m := by rw [List.take_take, Nat.min_self]
 refine ⟨h.ok, h.cache, h.n1, h.n2, h.mas, h.wip, h.base, ?_, h.right.take m, rfl, rfl, by rw [List.length_take]; have := h.few; omega, by rw [ht]; exact h.dur, by rw [ht]; exact h.chk, by show lenQ (rs.take m) ≤ L.m.n * 510; omega, h.v0, by rw [ht]; exact h.vi⟩
 show L.m.base + lenQ (rs.take m) ≤ lastLSN
 omega
theorem open_mas {D D2 : Dk} {L L2 : Lg} {rs : List Recd} {m : Nat} {l : List Recd} (h : Run D L rs m) (ho : Opens D (.ok (L2, l)) D2) : L2.m = L.m := by
 obtain ⟨_, _, h3⟩ := rm_sem h.v0 h.mas h.n1 h.n2 h.base (by have := h.fin'; omega)
 cases ho with
 | ok hm _ _ _ _ _ =>
  rcases h3 with ⟨e, _⟩ | ⟨e, _⟩
  ·rw [hm] at e
   cases e
   show { L.m with wiped := false } = L.m
   rw [← h.wip]
  ·rw [hm] at e; cases e
theorem open_run {D D2 : Dk} {L : Lg} {rs : List Recd} {m : Nat} {r : Except Int (Lg × List Recd)} (h : Run D L rs m) (hn : NoTrip D) (ho : Opens D r D2) :
  NoTrip D2 ∧ D2.kept.length = D.kept.length ∧ ∃ L2, r = .ok (L2, foundQ L.m.base (rs.take m)) ∧ Run D2 L2 (rs.take m) m ∧ L2.m = L.m := by
 have hc := h.cut
 have hl : (rs.take m).length = m := by rw [List.length_take]; have := h.few; omega
 obtain ⟨_, h2, _, h4, h5⟩ := open_dead (brk := none) ho h.ok h.cache (.inl (hc.dead none)) h.n1 h.n2 h.base hc.fin' h.mas.kept (fun x hx => by cases hx) hc.right hc.few hc.len
 refine ⟨h4 hn, h2, ?_⟩
 rcases h5 with ⟨j, L2, h6, h7, rfl, h8, h9, h10, h11⟩ | ⟨x, _, hx, _⟩ | ⟨_, _, hx⟩
 ·obtain rfl : j = m := by omega
  rw [List.take_take, Nat.min_self] at ho h8 ⊢
  exact ⟨L2, rfl, h8, open_mas h ho⟩
 ·cases hx
 ·exact absurd hn hx
theorem Run.sts_sorted {D : Dk} {L : Lg} {rs : List Recd} {m : Nat} (h : Run D L rs m) : L.starts.Pairwise (· < ·) := by rw [h.sts]; exact (starts_rise _ _ h.right).1
end Go.Proofs.YtmcdaegaopfihaaGreat.Wl
end

section
namespace Go.Proofs.YtmcdaegaopfihaaGreat.Wl
open Go Go.K Go.Proofs Go.Proofs.YtmcdaegaopfihaaGreat Go.Proofs.YtmcdaegaopfihaaGreat.Cc Go.Proofs.YtmcdaegaopfihaaGreat.Rc
set_option linter.unusedVariables false
set_option linter.unusedSimpArgs false
set_option maxRecDepth 10000

theorem found_len (base : Nat) (rs : List Recd) : (foundQ base rs).length = rs.length := by unfold foundQ; rw [List.length_map, places_len]
theorem places_get : ∀ (rs : List Recd) (a j : Nat) (o : Recd × Nat), (placesQ a rs)[j]? = some o → ∃ r, rs[j]? = some r ∧ o.1 = z0 r
 | [], a, j, o, h => by simp [placesQ] at h
 | r :: rs, a, 0, o, h => by
  simp only [placesQ, List.getElem?_cons_zero, Option.some.injEq] at h
  exact ⟨r, rfl, by rw [← h]⟩
 | r :: rs, a, j + 1, o, h => by
  rw [placesQ, List.getElem?_cons_succ] at h
  obtain ⟨r', h1, h2⟩ := places_get rs _ j o h
  exact ⟨r', by rw [List.getElem?_cons_succ]; exact h1, h2⟩
theorem found_get {base : Nat} {rs : List Recd} {j : Nat} {x : Recd} (h : (foundQ base rs)[j]? = some x) : ∃ r, rs[j]? = some r ∧ x = { r with lsn := x.lsn } ∧ (startsQ base rs)[j]? = some x.lsn := by
 unfold foundQ at h
 rw [List.getElem?_map] at h
 obtain ⟨o, ho, rfl⟩ := Option.map_eq_some_iff.1 h
 obtain ⟨r, h1, h2⟩ := places_get rs 0 j o ho
 refine ⟨r, h1, ?_, ?_⟩
 ·unfold lsnR; rw [h2]; rfl
 ·unfold startsQ stsQ
  rw [List.getElem?_map, ho]; rfl
structure Lost (D : Dk) (n base kept : Nat) (rs : List Recd) (m : Nat) (brk : Option Nat) : Prop where
 ok : DkOk D
 dead : Dead D n base kept rs m brk
 n1 : 16 ≤ n
 n2 : n < D.kept.length
 b1 : 1 ≤ base
 fin : base + lenQ rs ≤ lastLSN
 k1 : kept < 4294967296
 k2 : ∀ x, brk = some x → x < 4294967296
 right : RightL rs
 few : m ≤ rs.length
 len : lenQ rs ≤ n * 510
def tripQ (D : Dk) (n : Int) : Dk := if D.dark then D else { D with trip := max n (-1) }
end Go.Proofs.YtmcdaegaopfihaaGreat.Wl
end

section
namespace Go.Proofs.YtmcdaegaopfihaaGreat.Wl
open Go Go.K Go.Proofs Go.Proofs.YtmcdaegaopfihaaGreat Go.Proofs.YtmcdaegaopfihaaGreat.Pg Go.Proofs.YtmcdaegaopfihaaGreat.Ra Go.Proofs.YtmcdaegaopfihaaGreat.Cc Go.Proofs.YtmcdaegaopfihaaGreat.Rc
set_option linter.unusedVariables false
set_option linter.unusedSimpArgs false
set_option maxRecDepth 10000

structure PlayX (h : Base) (M : SM) (W : LM) (D : Dk) (L : Lg) (rs : List Recd) (m : Nat) : Prop where
 run : Run D L rs m
 on : NoTrip D
 es : RowsG (RecC h) M.es rs
 str : StrOk h W L.stream
def playA (s p d : Nat) (M : SM) (W : LM) (Dm : DM) (D : Dk) (L : Lg) (rs : List Recd) : List Asrt := stA s M L rs ++ (lgA p d W L ++ dkA d Dm D)
def DoesR (s p d : Nat) (D : Dk) (L : Lg) (u : Value) (h' : Base) (H' : List Asrt) : Prop := u = .bool true ∧ ∃ M W Dm D' L' rs' m', PlayX h' M W D' L' rs' m' ∧ D'.kept.length = D.kept.length ∧ L'.m.n = L.m.n ∧ H' = playA s p d M W Dm D' L' rs'
theorem FewR.short {r : Recd} (h : FewR r) (hr : ReachR r) : shortX r := ⟨h.img, hr.cells, h.liv, h.dir, h.dat⟩
theorem app_case (L : Lg) (r : Recd) : (mayR r = false ∧ encR r = ([], 5) ∧ appQ L r = ((0, 5), L)) ∨ (mayR r = true ∧ encR r = (encN r, 0) ∧ roomQ L < (encN r).length ∧ appQ L r = ((0, 4), L)) ∨
  (mayR r = true ∧ encR r = (encN r, 0) ∧ (encN r).length ≤ roomQ L ∧ appQ L r = ((endQ L, 0), { L with stream := L.stream ++ encN r, starts := L.starts ++ [endQ L] })) := by
 cases hm : mayR r with
 | false =>
  have e := encR_no hm
  exact .inl ⟨rfl, e, by unfold appQ; rw [e]; rfl⟩
 | true =>
  have e := encR_yes hm
  by_cases hr : roomQ L < (encN r).length
  ·exact .inr (.inl ⟨rfl, e, hr, by unfold appQ; rw [e, if_neg (fun h => h rfl), if_pos hr]⟩)
  ·exact .inr (.inr ⟨rfl, e, by omega, by unfold appQ; rw [e, if_neg (fun h => h rfl), if_neg hr]⟩)
theorem rows_snoc {h h' : Base} {es : List (List Value)} {rs : List Recd} {c : List Value} {r : Recd} (hr : RowsG (RecC h) es rs) (hle : h.le h') (hc : RecC h' c r) : RowsG (RecC h') (es ++ [c]) (rs ++ [r]) := by
 refine ⟨by rw [List.length_append, List.length_append, hr.1]; rfl, fun j d x hd hx => ?_⟩
 by_cases hj : j < es.length
 ·rw [List.getElem?_append_left hj] at hd
  rw [List.getElem?_append_left (by rw [← hr.1]; exact hj)] at hx
  exact (hr.2 j d x hd hx).le hle
 ·rw [List.getElem?_append_right (by omega)] at hd
  rw [List.getElem?_append_right (by rw [← hr.1]; omega), ← hr.1] at hx
  have h0 : j - es.length = 0 := by
   have := (List.getElem?_eq_some_iff.1 hd).1
   simp at this; omega
  rw [h0] at hd hx
  cases hd; cases hx
  exact hc
theorem rows_le {h h' : Base} {es : List (List Value)} {rs : List Recd} (hr : RowsG (RecC h) es rs) (hle : h.le h') : RowsG (RecC h') es rs := ⟨hr.1, fun j c x hc hx => (hr.2 j c x hc hx).le hle⟩
theorem recc_cR {h : Base} {cs : List Value} {r : Recd} (hx : RecC h cs r) : ∃ ad ai al ay cd ci cl cy, cs = cR r (.slice ad r.op.data.length cd) (.slice ai r.images.length ci) (.slice al r.lives.length cl) (.slice ay r.dirty.length cy) := by
 obtain ⟨_, ad, ai, al, ay, cd, ci, cl, cy, e, _⟩ := hx.cells
 exact ⟨ad, ai, al, ay, cd, ci, cl, cy, e⟩
set_option maxHeartbeats 16000000 in
theorem DoesAppend (h : Base) (s p d : Nat) (M : SM) (W : LM) (Dm : DM) (D : Dk) (L : Lg) (rs : List Recd) (m : Nat) (hp : PlayX h M W D L rs m) (cs : List Value) (r : Recd) (n : Int) (hx : RecC h cs r) (hf : FewR r) (hreach : ReachR r) :
  Tr Tryz.prog 28 [pv s, pv p, .agg (Value.int .i64 0 :: (cs ++ [.int .i64 n])).toArray] h (playA s p d M W Dm D L rs) (DoesR s p d D L) := by
 obtain ⟨hrun, hon, hes, hst⟩ := hp
 have ho := hrun.lgOk
 have hsm := hf.small
 have hsh := hf.short hreach
 have ho3 := ho.str
 have ho4 := ho.sts
 have hn := ho.mas.n
 have hrl : rs.length ≤ 1000000000 := by have := hrun.sts; have h2 := starts_len L.m.base rs; rw [← this] at h2; omega
 have hcop := fun h1 (le : h.le h1) => RecCopy h1 cs r (hx.le le) hsh
 have henc := fun h1 (le : h.le h1) => RefEncode h1 cs r (hx.le le) hsm
 obtain ⟨ad, ai, al, ay, cd, ci, cl, cy, rfl⟩ := recc_cR hx
 refine K.enter Tryz.func28 rfl (Nat.le_of_ble_eq_true rfl) (fun F => ?_)
 unfold playA stA lgA dkA
 simp only [List.cons_append, List.nil_append]
 (repeat' first | refine X.rq ?_ | refine X.rc ?_ ?_ <;> intro hc <;> try omega)
 refine K.l_box rfl rfl rfl (fun B5 => ?_)
 (repeat' first | refine X.rq ?_ | refine X.rc ?_ ?_ <;> intro hc <;> try omega)
 refine K.s_pure (K.p_loadM (vs := cR r (.slice ad r.op.data.length cd) (.slice ai r.images.length ci) (.slice al r.lives.length cl) (.slice ay r.dirty.length cy)) (Fx.agg rfl) rfl (K.cels_own (pre := [.int .i64 0]) (cs := cR r (.slice ad r.op.data.length cd) (.slice ai r.images.length ci) (.slice al r.lives.length cl) (.slice ay r.dirty.length cy)) (post := [.int .i64 n]) 0 rfl rfl) (Fx.sz rfl) rfl) rfl ?_
 (repeat' first | refine X.rq ?_ | refine X.rc ?_ ?_ <;> intro hc <;> try omega)
 refine K.l_call (Fx.cal rfl) rfl (hcop _ (K.Base.le.refl _)) (K.pp [] rfl) rfl ?_
 rintro u h1 H' le1 ⟨rfl, c1, rfl, hx1⟩
 obtain ⟨ad1, ai1, al1, ay1, cd1, ci1, cl1, cy1, rfl⟩ := recc_cR hx1
 simp only [List.cons_append, List.nil_append]
 (repeat' first | refine X.rq ?_ | refine X.rc ?_ ?_ <;> intro hc <;> try omega)
 refine K.l_alloc (Fx.zr rfl) rfl rfl (fun B7 => ?_)
 refine X.stw ?_
 simp only [Go.K.nmz]
 (repeat' first | refine X.rq ?_ | refine X.rc ?_ ?_ <;> intro hc <;> try omega)
 refine K.l_call (Fx.cal rfl) rfl (Append h1 p d W L ho (hst.le le1) _ r hx1 hsm) (K.pp [6, 6, 6] rfl) rfl ?_
 rintro u h2 H' - ⟨rfl, rfl, W2, hst2, rfl⟩
 have hwx := hx.wfX
 rcases app_case L r with ⟨hm, he, ha⟩ | ⟨hm, he, hrm, ha⟩ | ⟨hm, he, hrm, ha⟩
 ·rw [ha] at hst2 ⊢
  rw [he] at henc
  dsimp only at hst2 henc
  unfold lgA
  simp only [Go.K.nmz]
  (repeat' first | refine X.rq ?_ | refine X.rc ?_ ?_ <;> intro hc <;> try omega)
  refine K.s_pure (K.p_loadM (vs := cR r (.slice ad r.op.data.length cd) (.slice ai r.images.length ci) (.slice al r.lives.length cl) (.slice ay r.dirty.length cy)) (Fx.agg rfl) rfl (K.cels_own (pre := [.int .i64 0]) (cs := cR r (.slice ad r.op.data.length cd) (.slice ai r.images.length ci) (.slice al r.lives.length cl) (.slice ay r.dirty.length cy)) (post := [.int .i64 n]) 4 rfl rfl) (Fx.sz rfl) rfl) rfl ?_
  refine K.l_call (Fx.cal rfl) rfl (henc _ le1) (K.pp [] rfl) rfl ?_
  rintro u h' H' - ⟨rfl, a3, c3, rfl, rfl⟩
  (repeat' first | refine X.rq ?_ | refine X.rc ?_ ?_ <;> intro hc <;> try omega)
  refine K.AT.perm (K.pp [0, 3, 3, 3, 3, 3, 3] rfl) ?_
  exact K.doneC (vs := [.bool true]) (by first | exact Or.inl rfl | exact Or.inr rfl) (.tmp rfl .nil) le1 (D := [_, _, _]) (H' := [_, _, _, _, _, _, _, _, _, _]) rfl ⟨rfl, M, W2, Dm, D, L, rs, m, ⟨hrun, hon, rows_le hes le1, hst2⟩, rfl, rfl, rfl⟩
 ·rw [ha] at hst2 ⊢
  rw [he] at henc
  dsimp only at hst2 henc
  have henl := encN_len hm
  have hro := SRoomA h2 s M L rs (rows_le hes le1) ho
  unfold stA at hro
  unfold lgA
  simp only [Go.K.nmz]
  (repeat' first | refine X.rq ?_ | refine X.rc ?_ ?_ <;> intro hc <;> try omega)
  refine K.s_pure (K.p_loadM (vs := cR r (.slice ad r.op.data.length cd) (.slice ai r.images.length ci) (.slice al r.lives.length cl) (.slice ay r.dirty.length cy)) (Fx.agg rfl) rfl (K.cels_own (pre := [.int .i64 0]) (cs := cR r (.slice ad r.op.data.length cd) (.slice ai r.images.length ci) (.slice al r.lives.length cl) (.slice ay r.dirty.length cy)) (post := [.int .i64 n]) 4 rfl rfl) (Fx.sz rfl) rfl) rfl ?_
  refine K.l_call (Fx.cal rfl) rfl (henc _ le1) (K.pp [] rfl) rfl ?_
  rintro u h' H' - ⟨rfl, a3, c3, rfl, rfl⟩
  (repeat' first | refine X.rq ?_ | refine X.rc ?_ ?_ <;> intro hc <;> try omega)
  refine K.l_callV (Fx.cal rfl) rfl hro (K.pp [6, 6, 6, 6] rfl) rfl rfl ?_
  simp only [Go.K.nmz]
  (repeat' first | refine X.rq ?_ | refine X.rc ?_ ?_ <;> intro hc <;> try omega)
  all_goals try (exfalso; omega)
  refine K.AT.perm (K.pp [4, 7, 7] rfl) ?_
  exact K.doneC (vs := [.bool true]) (by first | exact Or.inl rfl | exact Or.inr rfl) (.tmp rfl .nil) le1 (D := [_, _, _]) (H' := [_, _, _, _, _, _, _, _, _, _]) rfl ⟨rfl, M, W2, Dm, D, L, rs, m, ⟨hrun, hon, rows_le hes le1, hst2⟩, rfl, rfl, rfl⟩
 ·rw [ha] at hst2 ⊢
  rw [he] at henc
  dsimp only at hst2 henc
  have henl := encN_len hm
  have hro := SRoomA h2 s M L rs (rows_le hes le1) ho
  have hen := SEndA h2 s M L rs (rows_le hes le1) ho
  unfold stA at hro hen
  unfold lgA
  simp only [Go.K.nmz]
  (repeat' first | refine X.rq ?_ | refine X.rc ?_ ?_ <;> intro hc <;> try omega)
  refine K.s_pure (K.p_loadM (vs := cR r (.slice ad r.op.data.length cd) (.slice ai r.images.length ci) (.slice al r.lives.length cl) (.slice ay r.dirty.length cy)) (Fx.agg rfl) rfl (K.cels_own (pre := [.int .i64 0]) (cs := cR r (.slice ad r.op.data.length cd) (.slice ai r.images.length ci) (.slice al r.lives.length cl) (.slice ay r.dirty.length cy)) (post := [.int .i64 n]) 4 rfl rfl) (Fx.sz rfl) rfl) rfl ?_
  refine K.l_call (Fx.cal rfl) rfl (henc _ le1) (K.pp [] rfl) rfl ?_
  rintro u h' H' - ⟨rfl, a3, c3, rfl, rfl⟩
  (repeat' first | refine X.rq ?_ | refine X.rc ?_ ?_ <;> intro hc <;> try omega)
  refine K.l_callV (Fx.cal rfl) rfl hro (K.pp [6, 6, 6, 6] rfl) rfl rfl ?_
  simp only [Go.K.nmz]
  (repeat' first | refine X.rq ?_ | refine X.rc ?_ ?_ <;> intro hc <;> try omega)
  all_goals try (exfalso; omega)
  refine K.l_callV (Fx.cal rfl) rfl hen (K.pp [0, 0, 0, 0] rfl) rfl rfl ?_
  simp only [Go.K.nmz]
  unfold stV
  (repeat' first | refine X.rq ?_ | refine X.rc ?_ ?_ <;> intro hc <;> try omega)
  refine K.l_buildSlice (cs := [n64 (endQ L)]) (Fx.und rfl) (Fx.sz rfl) rfl (Fx.zr rfl) rfl rfl rfl rfl rfl (fun B30 => ?_)
  refine K.l_append_at 3 rfl (Fx.und rfl) (Fx.und rfl) rfl (Fx.sz rfl) (Fx.zr rfl) rfl (Fx.byt rfl) rfl rfl (K.src_cells (m := 1) (K.cels_own (pre := []) (cs := [n64 (endQ L)]) (post := []) 0 rfl rfl) rfl (fun u hu => by rw [List.mem_singleton.1 hu]; rfl)) (by omega) (by omega) rfl (fun a5 k5 => ?_)
  simp only [Go.K.nmz]
  (repeat' first | refine X.rq ?_ | refine X.rc ?_ ?_ <;> intro hc <;> try omega)
  refine X.sto ?_
  simp only [Go.K.nmz]
  (repeat' first | refine X.rq ?_ | refine X.rc ?_ ?_ <;> intro hc <;> try omega)
  refine X.draw ([blk s 77 [.int .i64 L.m.n, n64 L.m.base, n64 L.m.check, .int .u32 L.m.kept, bufV M.a1 L.stream.length M.k1, bufV a5 (L.starts.length + 1) k5, bufV M.a3 rs.length M.k3, n64 L.durable], blk B5 47 (.int .i64 0 :: (cR r (.slice ad r.op.data.length cd) (.slice ai r.images.length ci) (.slice al r.lives.length cl) (.slice ay r.dirty.length cy) ++ [.int .i64 n]))]) [12] (.pu 0 (.pu 1 (.pu 2 (.pu 3 (.pu 5 (.st 4 (.st 6 (.on 7 (.on 8 (.on 9 (.pu 10 (.pu 11 (.cl 12 .nil))))))))))))) ?_ (hQ := by repeat (first | with_reducible refine K.NoPanic.then ?_ | with_reducible refine K.NoPanic.inBlock ?_ | with_reducible exact K.post_noPanic _ _ | exact K.post_noPanic _ _ | exact K.QN_noPanic | exact K.postS_noPanic | exact K.postX_noPanic | exact K.RPX_noPanic))
  refine K.d_pu rfl (fun _ _ => X.mv) rfl ?_
  refine K.d_pu rfl (fun _ _ => X.mv) rfl ?_
  refine K.d_pu rfl (fun _ _ => X.nc) rfl ?_
  refine K.d_pu rfl (fun _ _ => X.fa) rfl ?_
  refine K.d_pu rfl (fun _ _ => X.fa) rfl ?_
  refine K.d_st rfl X.ld rfl ?_
  refine K.d_st rfl (K.p_loadM (vs := cR r (.slice ad r.op.data.length cd) (.slice ai r.images.length ci) (.slice al r.lives.length cl) (.slice ay r.dirty.length cy)) (Fx.agg rfl) rfl (K.cels_own (pre := [.int .i64 0]) (cs := cR r (.slice ad r.op.data.length cd) (.slice ai r.images.length ci) (.slice al r.lives.length cl) (.slice ay r.dirty.length cy)) (post := [.int .i64 n]) 1 rfl rfl) (Fx.sz rfl) rfl) rfl ?_
  refine K.d_on rfl (fun KK hKK => ?_)
  refine K.l_call (Fx.cal rfl) rfl (hcop _ le1) (K.pp [] rfl) rfl ?_
  rintro u h9 H' le9 ⟨rfl, c9, rfl, hx9⟩
  obtain ⟨ad9, ai9, al9, ay9, cd9, ci9, cl9, cy9, rfl⟩ := recc_cR hx9
  simp only [List.cons_append, List.nil_append]
  refine K.l_nil ?_
  refine X.onE hKK ?_
  refine K.d_on rfl (fun KK hKK => ?_)
  refine K.l_buildSlice (cs := cR r (.slice ad9 r.op.data.length cd9) (.slice ai9 r.images.length ci9) (.slice al9 r.lives.length cl9) (.slice ay9 r.dirty.length cy9)) (Fx.und rfl) (Fx.sz rfl) rfl (Fx.zr rfl) rfl rfl rfl rfl rfl (fun B31 => ?_)
  refine K.l_nil ?_
  refine X.onE hKK ?_
  refine K.d_on rfl (fun KK hKK => ?_)
  refine K.l_append_at 5 rfl (Fx.und rfl) (Fx.und rfl) rfl (Fx.sz rfl) (Fx.zr rfl) rfl (Fx.byt rfl) rfl rfl (K.src_cells (m := 1) (K.cels_own (pre := []) (cs := cR r (.slice ad9 r.op.data.length cd9) (.slice ai9 r.images.length ci9) (.slice al9 r.lives.length cl9) (.slice ay9 r.dirty.length cy9)) (post := []) 0 rfl rfl) rfl (List.all_eq_true.1 (rec_ones hx9))) (by omega) (by omega) rfl (fun a6 k6 => ?_)
  simp only [Go.K.nmz]
  refine K.l_nil ?_
  refine X.onE hKK ?_
  refine K.d_pu rfl (fun _ _ => X.nc) rfl ?_
  refine K.d_pu rfl (fun _ _ => X.fa) rfl ?_
  refine K.d_cl rfl (fun KK hKK => ?_)
  refine X.sto ?_
  refine K.l_nil ?_
  refine K.d_clE hKK ?_
  refine K.d_nil ?_
  simp only [Go.K.nmz]
  (repeat' first | refine X.rq ?_ | refine X.rc ?_ ?_ <;> intro hc <;> try omega)
  refine K.WL.perm (K.pp [6, 3] rfl) ?_
  unfold stA1
  simp only [Go.K.nmz]
  refine l_appBB (l := L.stream) (l2 := encN r) (Fx.und rfl) (Fx.und rfl) rfl rfl (by omega) rfl (fun a8 k8 => ?_)
  (repeat' first | refine X.rq ?_ | refine X.rc ?_ ?_ <;> intro hc <;> try omega)
  refine X.sto ?_
  simp only [Go.K.nmz]
  (repeat' first | refine X.rq ?_ | refine X.rc ?_ ?_ <;> intro hc <;> try omega)
  have e1 : L.starts.length + 1 = (L.starts ++ [endQ L]).length := by simp
  have e2 : rs.length + 1 = (rs ++ [r]).length := by simp
  have e3 : L.starts.map n64 ++ [n64 (endQ L)] = (L.starts ++ [endQ L]).map n64 := by simp
  have e4 : M.es.flatten ++ cR r (.slice ad9 r.op.data.length cd9) (.slice ai9 r.images.length ci9) (.slice al9 r.lives.length cl9) (.slice ay9 r.dirty.length cy9) = (M.es ++ [cR r (.slice ad9 r.op.data.length cd9) (.slice ai9 r.images.length ci9) (.slice al9 r.lives.length cl9) (.slice ay9 r.dirty.length cy9)]).flatten := by simp
  rw [e1, e2, e3, e4]
  have hrun2 := append_run hrun (r := r) hwx (by rw [he]) (by rw [he]; exact hrm)
  rw [ha] at hrun2
  refine K.AT.perm (K.pp [1, 1, 7, 7, 1] rfl) ?_
  exact K.doneC (vs := [.bool true]) (by first | exact Or.inl rfl | exact Or.inr rfl) (.tmp rfl .nil) (le1.trans le9) (D := [_, _, _, _]) (H' := [_, _, _, _, _, _, _, _, _, _]) rfl
   ⟨rfl, ⟨a8, k8, a5, k5, a6, k6, M.es ++ [cR r (.slice ad9 r.op.data.length cd9) (.slice ai9 r.images.length ci9) (.slice al9 r.lives.length cl9) (.slice ay9 r.dirty.length cy9)]⟩, W2, Dm, D, _, rs ++ [r], m, ⟨hrun2, hon, rows_snoc (rows_le hes le1) le9 hx9, hst2.le le9⟩, rfl, rfl, rfl⟩
end Go.Proofs.YtmcdaegaopfihaaGreat.Wl
end
