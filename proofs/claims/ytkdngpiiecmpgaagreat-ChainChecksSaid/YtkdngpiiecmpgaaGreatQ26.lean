/-
 N3: the texts Nk Nl in one. Conditions: each theorem's own.
-/
import Derived.Test.YtkdngpiiecmpgaaGreatQ24
import Derived.Test.YtkdngpiiecmpgaaGreatQ23
import Derived.Test.YtkdngpiiecmpgaaGreatQ25
/-! Pages in new memory, and the zero page: the code. What is fresh behind a base. Conditions: each theorem's own. -/
namespace Go.Proofs.YtkdngpiiecmpgaaGreat.Ch
open Go Go.K Go.Proofs Go.Proofs.YtkdngpiiecmpgaaGreat Go.Proofs.YtkdngpiiecmpgaaGreat.Pg Go.Proofs.YtkdngpiiecmpgaaGreat.Rc
set_option linter.unusedVariables false
set_option linter.unusedSimpArgs false
set_option maxRecDepth 10000

def CellF (h0 h : Base) (c : List Value) (x : PCell) : Prop := CellC h c x ∧ ∀ v, c[2]? = some v → Fsh h0 h 1 v
theorem CellF.le {h0 h0' h h' : Base} (h1 : h0'.le h0) (h2 : h.le h') {c : List Value} {x : PCell} (hc : CellF h0 h c x) : CellF h0' h' c x := ⟨hc.1.le h2, fun v hv => (hc.2 v hv).le h1 h2⟩
def PagF (h0 h : Base) (cs : List Value) (p : Pag) : Prop := wfP p ∧ ∃ cv es, cs = cP p cv ∧ SL h 3 cv es ∧ es.length = p.cells.length ∧ Fsh h0 h 3 cv ∧ ∀ (j : Nat) c x, es[j]? = some c → p.cells[j]? = some x → CellF h0 h c x
theorem PagF.c {h0 h : Base} {cs : List Value} {p : Pag} (hp : PagF h0 h cs p) : PagC h cs p := by
 obtain ⟨h1, cv, es, h2, h3, h4, _, h6⟩ := hp
 exact ⟨h1, cv, h2, es, h3, h4, fun j c x a b => (h6 j c x a b).1⟩
theorem PagF.le {h0 h0' h h' : Base} {cs : List Value} {p : Pag} (hp : PagF h0 h cs p) (l1 : h0'.le h0) (l2 : h.le h') : PagF h0' h' cs p := by
 obtain ⟨h1, cv, es, h2, h3, h4, h5, h6⟩ := hp
 exact ⟨h1, cv, es, h2, h3.le l2, h4, h5.le l1 l2, fun j c x a b => (h6 j c x a b).le l1 l2⟩
def ImgG (h0 h : Base) (c : List Value) (x : PImg) : Prop := x.page < 4294967296 ∧ ∃ cs, c = .int .u32 x.page :: cs ∧ PagF h0 h cs x.to
theorem ImgG.c {h0 h : Base} {c : List Value} {x : PImg} (hc : ImgG h0 h c x) : ImgC h c x := by
 obtain ⟨h1, cs, h2, h3⟩ := hc
 exact ⟨h1, cs, h2, h3.c⟩
theorem ImgG.le {h0 h0' h h' : Base} (l1 : h0'.le h0) (l2 : h.le h') {c : List Value} {x : PImg} (hc : ImgG h0 h c x) : ImgG h0' h' c x := by
 obtain ⟨h1, cs, h2, h3⟩ := hc
 exact ⟨h1, cs, h2, h3.le l1 l2⟩
section
variable {P : Program} {n : Nat} {Q : Exit → Act → World → Prop} {E : Env} {h : Base} {H F : List Asrt} {ops : Array Oper}
theorem Ok.freezeData : ∀ (l : List OC) {h : Base} {w : World}, Ok h (l.map datA ++ F) w → ∃ h', h.le h' ∧ (∀ c ∈ l, BV h' (bufV c.a c.data.length c.cap) c.data ∧ Fsh h h' 1 (bufV c.a c.data.length c.cap) ∧ c.data.length ≤ 9223372036854775807) ∧ Ok h' F w
 | [], h, w, ok => ⟨h, .refl h, (fun c hc => by cases hc), ok⟩
 | c :: l, h, w, ok => by
  have ok : Ok h (bufA 5 1 c.a c.data.length c.cap (c.data.map u8) :: (l.map datA ++ F)) w := ok
  have hlen : c.data.length ≤ 9223372036854775807 := by
   have hown := ok.own_head
   cases ha : c.a with
   | none => rw [ha] at hown; obtain ⟨e1, _, _⟩ := hown; omega
   | some b => rw [ha] at hown; obtain ⟨_, _, _, _, _, g4, g5, _⟩ := hown; unfold maxLen at g5; omega
  obtain ⟨h1, l1, b1, f1, ok1⟩ := ok.freezeBufF
  obtain ⟨h2, l2, b2, ok2⟩ := Ok.freezeData l ok1
  refine ⟨h2, l1.trans l2, fun x hx => ?_, ok2⟩
  rcases List.mem_cons.1 hx with rfl | hx
  ·exact ⟨b1.le l2, f1.le (.refl _) l2, hlen⟩
  ·exact ⟨(b2 x hx).1, (b2 x hx).2.1.le l1 (.refl _), (b2 x hx).2.2⟩
theorem Ok.freezePg {b : Option Nat} {cap : Nat} {l : List OC} {p : Pag} {w : World} (hk : okO l) (hw : wfP p) (hc : p.cells = l.map OC.cell) (ok : Ok h (pgA b cap l ++ F) w) : ∃ h', h.le h' ∧ PagF h h' (cP p (bufV b l.length cap)) p ∧ Ok h' F w := by
 have ok : Ok h (bufA 55 3 b l.length cap (l.map rowO).flatten :: all (l.map datA) :: F) w := ok
 have hl : (l.map rowO).length = l.length := List.length_map ..
 have ok : Ok h (bufA 55 3 b (l.map rowO).length cap (l.map rowO).flatten :: all (l.map datA) :: F) w := by rw [hl]; exact ok
 obtain ⟨h1, l1, s1, _, f1, ok1⟩ := ok.freezeRowF (rowO_len l)
 obtain ⟨h2, l2, b2, ok2⟩ := Ok.freezeData (F := F) l (K.Ok.all_iff.1 ok1)
 rw [hl] at s1 f1
 refine ⟨h2, l1.trans l2, ⟨hw, _, _, rfl, s1.le l2, by rw [hc, hl, List.length_map], f1.le (.refl _) l2, fun j c x hj hx => ?_⟩, ok2⟩
 rw [hc, List.getElem?_map] at hx
 rw [List.getElem?_map] at hj
 cases ho : l[j]? with
 | none => rw [ho] at hj; cases hj
 | some o =>
  rw [ho] at hj hx
  cases hj; cases hx
  have hmem := List.mem_of_getElem? ho
  obtain ⟨hb, hf, hn⟩ := b2 o hmem
  refine ⟨⟨hk o hmem, hn, _, _, rfl, hb⟩, fun v hv => ?_⟩
  cases hv
  exact hf.le l1 (.refl _)
theorem WL.freezePg {L : List Oper} {b : Option Nat} {cap : Nat} {l : List OC} {p : Pag} (hk : okO l) (hw : wfP p) (hc : p.cells = l.map OC.cell) (hx : ∀ h', h.le h' → PagF h h' (cP p (bufV b l.length cap)) p → WL P n ops Q L E h' F) : WL P n ops Q L E h (pgA b cap l ++ F) :=
 ⟨fun a w fa ok => by obtain ⟨h', h1, h2, h3⟩ := Ok.freezePg hk hw hc ok; exact (hx h' h1 h2).run _ w fa h3⟩
theorem WC.freezePg {c : Code} {b : Option Nat} {cap : Nat} {l : List OC} {p : Pag} (hk : okO l) (hw : wfP p) (hc : p.cells = l.map OC.cell) (hx : ∀ h', h.le h' → PagF h h' (cP p (bufV b l.length cap)) p → WC P n c Q E h' F) : WC P n c Q E h (pgA b cap l ++ F) :=
 ⟨fun a w fa ok => by obtain ⟨h', h1, h2, h3⟩ := Ok.freezePg hk hw hc ok; exact (hx h' h1 h2).run _ w fa h3⟩
theorem AT.freezePg {q : Exit} {b : Option Nat} {cap : Nat} {l : List OC} {p : Pag} (hk : okO l) (hw : wfP p) (hc : p.cells = l.map OC.cell) (hx : ∀ h', h.le h' → PagF h h' (cP p (bufV b l.length cap)) p → AT P n Q q E h' F) : AT P n Q q E h (pgA b cap l ++ F) :=
 ⟨fun a w fa ok => by obtain ⟨h', h1, h2, h3⟩ := Ok.freezePg hk hw hc ok; exact (hx h' h1 h2).run _ w fa h3⟩
end
theorem PagF.lsn {h0 h : Base} {p : Pag} {cv : Value} (hp : PagF h0 h (cP p cv) p) {n : Nat} (hn : n < 18446744073709551616) : PagF h0 h (cP { p with lsn := n } cv) { p with lsn := n } := by
 obtain ⟨hw, cv', es, e, h1, h2, h3, h4⟩ := hp
 have : cv = cv' := by
  unfold cP at e
  injection e with _ e; injection e with _ e; injection e with _ e; injection e
 subst this
 exact ⟨⟨hw.kind, hn, hw.next, hw.len⟩, cv, es, rfl, h1, h2, h3, h4⟩
structure OwS where
 m : List OC
 a : Option Nat
 k : Nat
 n : Nat
 cs : List Value
 hs : List Asrt
set_option maxHeartbeats 4000000 in
theorem COwn (h : Base) (cs : List Value) (p : Pag) (hx : PagC h cs p) (hs : smallX p.cells) : Tr Tryz.prog 42 [.agg cs.toArray] h [] (OwnP h p) := by
 obtain ⟨hw, cv, rfl, es, hv, hel, hr⟩ := hx
 have hlen := hw.len
 obtain ⟨ao, ca, rfl⟩ := hv.len
 rw [hel] at hv ⊢
 unfold OwnP
 generalize hpl : p.cells = l at hv hel hr hlen hs ⊢
 have hl400 := hs.1
 have hs2 := fun (_ : Unit) => hs.2
 clear hs
 refine K.enter Tryz.func42 rfl (Nat.le_of_ble_eq_true rfl) (fun F => ?_)
 simp only [List.nil_append]
 (repeat' (first | refine X.rq ?_ | (refine X.rc ?_ ?_ <;> intro hc <;> first | (exfalso; omega) | skip)))
 refine K.l_box rfl rfl rfl (fun B1 => ?_)
 refine K.l_alloc (Fx.zr rfl) rfl rfl (fun B2 => ?_)
 (repeat' (first | refine X.rq ?_ | (refine X.rc ?_ ?_ <;> intro hc <;> first | (exfalso; omega) | skip)))
 refine K.WC.nilBuf 55 3 ?_
 refine Pg.WC.allNil ?_
 refine K.c_loop (σ := OwS) (fun q => [(1, .pointer (some ⟨B1, 0, none⟩)), (2, .pointer (some ⟨B2, 0, none⟩)), (3, bufV q.a q.n q.k), (7, .slice ao l.length ca), (8, .int .i64 l.length), (9, .int .i64 q.n)]) (fun _ => h)
  (fun q => all q.hs :: bufA 55 3 q.a q.n q.k q.cs :: blk B2 50 (cP ⟨0, 0, 0, []⟩ (.slice none 0 0)) :: blk B1 50 (cP p (.slice ao l.length ca)) :: F)
  (fun q => q.n ≤ l.length ∧ q.m.map OC.cell = l.take q.n ∧ okO q.m ∧ q.n = q.m.length ∧ q.cs = (q.m.map rowO).flatten ∧ q.hs = q.m.map datA) (fun q => l.length - q.n) ⟨[], none, 0, 0, [], []⟩ ⟨Nat.zero_le _, rfl, (fun c hc => by cases hc), rfl, rfl, rfl⟩ (by repeat (first | exact K.Sub.nil _ | refine K.Sub.cons rfl ?_)) rfl rfl ?_
 rintro ⟨m, a, k, n, cs, hs⟩ ⟨hj, hmc, hmk, hn, hcs, hhs⟩ KL hKL
 dsimp only at hj hmc hmk hn hcs hhs ⊢
 by_cases hjl : n < l.length
 ·have hc1 : es[n]? = some (es[n]'(by omega)) := List.getElem?_eq_getElem (by omega)
  have hc0 : es[((n : Nat) : Int).toNat]? = some (es[n]'(by omega)) := by rw [Int.toNat_natCast]; exact hc1
  have he1 : l[n]? = some l[n] := List.getElem?_eq_getElem hjl
  generalize es[n]'(by omega) = c at hc0 hc1
  have hmem : l[n] ∈ l := List.getElem_mem hjl
  generalize l[n] = x at he1 hmem
  have hd4 := hs2 () x hmem
  obtain ⟨hkl, hdl, ao3, ca3, rfl, hbv⟩ := hr n c x hc1 he1
  have hcl := Clone h _ x.data hbv (by omega)
  (repeat' (first | refine X.rq ?_ | (refine X.rc ?_ ?_ <;> intro hc <;> first | (exfalso; omega) | skip)))
  refine K.s_pureE (K.p_indexL hv (Fx.und rfl) (Fx.sz rfl) rfl rfl (by omega) hc0) rfl ?_
  rintro v2 ⟨b, o, rfl, hcel⟩
  refine K.s_pure (K.p_loadM (Fx.agg rfl) rfl (Cels.up hcel) (Fx.sz rfl) rfl) rfl ?_
  refine K.l_alloc (Fx.zr rfl) rfl rfl (fun B5 => ?_)
  refine X.stw ?_
  simp only [List.set_cons_zero, List.set_cons_succ, List.eraseIdx_cons_zero, List.eraseIdx_cons_succ, List.cons_append, List.nil_append]
  (repeat' (first | refine X.rq ?_ | (refine X.rc ?_ ?_ <;> intro hc <;> first | (exfalso; omega) | skip)))
  refine K.l_call (Fx.cal rfl) rfl hcl (K.pp [] rfl) rfl ?_
  rintro u h' H' - ⟨e, a2, cap2, rfl, rfl⟩
  obtain rfl := e.symm
  simp only [List.nil_append, List.cons_append]
  (repeat' (first | refine X.rq ?_ | (refine X.rc ?_ ?_ <;> intro hc <;> first | (exfalso; omega) | skip)))
  refine X.sto ?_
  simp only [List.set_cons_zero, List.set_cons_succ, List.eraseIdx_cons_zero, List.eraseIdx_cons_succ, List.cons_append, List.nil_append]
  (repeat' (first | refine X.rq ?_ | (refine X.rc ?_ ?_ <;> intro hc <;> first | (exfalso; omega) | skip)))
  refine K.l_buildSlice (Fx.und rfl) (Fx.sz rfl) rfl (Fx.zr rfl) rfl rfl rfl (cs := [.bool x.used, .int .u32 x.killer, bufV a2 x.data.length cap2]) rfl rfl (fun B6 => ?_)
  refine K.l_append_at 4 rfl (Fx.und rfl) (Fx.und rfl) rfl (Fx.sz rfl) (Fx.zr rfl) rfl (Fx.byt rfl) rfl rfl (K.src_cells (K.cels_own (pre := []) (cs := [.bool x.used, .int .u32 x.killer, bufV a2 x.data.length cap2]) (post := []) 0 rfl rfl) rfl (by simp [oneCell, bufV])) (by omega) (by omega) rfl (fun a6 cap6 => ?_)
  simp only [List.set_cons_zero, List.set_cons_succ, List.eraseIdx_cons_zero, List.eraseIdx_cons_succ, List.cons_append, List.nil_append]
  (repeat' (first | refine X.rq ?_ | (refine X.rc ?_ ?_ <;> intro hc <;> first | (exfalso; omega) | skip)))
  refine K.AT.sel [0, 1] rfl ?_
  refine Pg.AT.allPush (A := datA ⟨x.used, x.killer, a2, cap2, x.data⟩) (Hs := hs) ?_
  refine K.a_round hKL ⟨m ++ [⟨x.used, x.killer, a2, cap2, x.data⟩], a6, cap6, n + 1, cs ++ [.bool x.used, .int .u32 x.killer, bufV a2 x.data.length cap2], hs ++ [datA ⟨x.used, x.killer, a2, cap2, x.data⟩]⟩ ⟨by dsimp only; omega, ?_, fun c hc => ?_, by dsimp only; rw [List.length_append, hn]; rfl, by dsimp only; rw [hcs, List.map_append, List.flatten_append]; rfl, by dsimp only; rw [hhs, List.map_append]; rfl⟩ (by repeat (first | exact K.Sub.nil _ | refine K.Sub.cons rfl ?_)) rfl rfl (by dsimp only; omega)
  ·dsimp only
   rw [List.map_append, hmc, List.take_add_one, he1]
   rfl
  ·rcases List.mem_append.1 hc with hc | hc
   ·exact hmk c hc
   ·rw [List.mem_singleton.1 hc]; exact hkl
 ·obtain rfl : n = l.length := by omega
  rw [List.take_length] at hmc
  (repeat' (first | refine X.rq ?_ | (refine X.rc ?_ ?_ <;> intro hc <;> first | (exfalso; omega) | skip)))
  refine X.sto ?_
  simp only [List.set_cons_zero, List.set_cons_succ, List.eraseIdx_cons_zero, List.eraseIdx_cons_succ, List.cons_append, List.nil_append]
  (repeat' (first | refine X.rq ?_ | (refine X.rc ?_ ?_ <;> intro hc <;> first | (exfalso; omega) | skip)))
  refine X.stw ?_
  simp only [List.set_cons_zero, List.set_cons_succ, List.eraseIdx_cons_zero, List.eraseIdx_cons_succ, List.cons_append, List.nil_append]
  (repeat' (first | refine X.rq ?_ | (refine X.rc ?_ ?_ <;> intro hc <;> first | (exfalso; omega) | skip)))
  refine K.AT.perm (K.pp [2, 2, 1, 0] rfl) ?_
  simp only [List.set_cons_zero, List.set_cons_succ, List.eraseIdx_cons_zero, List.eraseIdx_cons_succ, List.cons_append, List.nil_append]
  refine K.doneC (vs := [.agg (cP p (bufV a l.length k)).toArray]) (by first | exact Or.inl rfl | exact Or.inr rfl) (.cell rfl (Fx.agg rfl) (Fx.sz rfl) (by first | exact K.cels_own (pre := []) (post := []) 0 rfl rfl | exact K.cels_own (pre := []) (post := []) 1 rfl rfl) .nil) (by first | exact K.Base.le.refl _ | assumption) (D := [_, _]) (H' := [bufA 55 3 a l.length k cs, all hs]) rfl ⟨rfl, a, k, m, hmc.symm, hmk, rfl, ?_⟩
  rw [pgA, ← hn, hcs, hhs]
def zeroQ (p : Pag) : Bool := decide (p.kind = 0) && decide (p.lsn = 0) && decide (p.next = 0) && decide (p.cells.length = 0)
set_option maxHeartbeats 4000000 in
theorem CZero (h : Base) (cs : List Value) (p : Pag) (hx : PagC h cs p) : TrV Tryz.prog 41 [.agg cs.toArray] h [] (.bool (zeroQ p)) [] := by
 obtain ⟨hw, cv, rfl, es, hv, hel, hr⟩ := hx
 obtain ⟨ao, ca, rfl⟩ := hv.len
 rw [hel]
 clear hw hr hv
 refine K.enter Tryz.func41 rfl (Nat.le_of_ble_eq_true rfl) (fun F => ?_)
 simp only [List.nil_append]
 unfold zeroQ
 (repeat' (first | refine X.rq ?_ | (refine X.rc ?_ ?_ <;> intro hc <;> first | (exfalso; omega) | skip)))
 refine K.l_box rfl rfl rfl (fun B1 => ?_)
 by_cases h1 : p.kind = 0
 ·by_cases h2 : p.lsn = 0
  ·by_cases h3 : p.next = 0
   ·(repeat' (first | refine X.rq ?_ | (refine X.rc ?_ ?_ <;> intro hc <;> first | (exfalso; omega) | skip)))
    refine K.AT.drop ?_
    refine K.done (by first | exact Or.inl rfl | exact Or.inr rfl) rfl (by first | exact K.Base.le.refl _ | assumption) (H' := []) rfl ⟨?_, rfl, rfl⟩
    rw [decide_eq_true h1, decide_eq_true h2, decide_eq_true h3, Bool.true_and, Bool.true_and, Bool.true_and]
    show Value.bool _ = Value.bool _
    congr 1
    exact decide_eq_decide.2 (by omega)
   ·(repeat' (first | refine X.rq ?_ | (refine X.rc ?_ ?_ <;> intro hc <;> first | (exfalso; omega) | skip)))
    refine K.AT.drop ?_
    refine K.done (by first | exact Or.inl rfl | exact Or.inr rfl) rfl (by first | exact K.Base.le.refl _ | assumption) (H' := []) rfl ⟨?_, rfl, rfl⟩
    rw [decide_eq_false h3, Bool.and_false, Bool.false_and]; simp [packV]
  ·(repeat' (first | refine X.rq ?_ | (refine X.rc ?_ ?_ <;> intro hc <;> first | (exfalso; omega) | skip)))
   refine K.AT.drop ?_
   refine K.done (by first | exact Or.inl rfl | exact Or.inr rfl) rfl (by first | exact K.Base.le.refl _ | assumption) (H' := []) rfl ⟨?_, rfl, rfl⟩
   rw [decide_eq_false h2, Bool.and_false, Bool.false_and, Bool.false_and]; simp [packV]
 ·(repeat' (first | refine X.rq ?_ | (refine X.rc ?_ ?_ <;> intro hc <;> first | (exfalso; omega) | skip)))
  refine K.AT.drop ?_
  refine K.done (by first | exact Or.inl rfl | exact Or.inr rfl) rfl (by first | exact K.Base.le.refl _ | assumption) (H' := []) rfl ⟨?_, rfl, rfl⟩
  rw [decide_eq_false h1, Bool.false_and, Bool.false_and, Bool.false_and]; simp [packV]
end Go.Proofs.YtkdngpiiecmpgaaGreat.Ch

/-! A page is found among pages: the code. Conditions: each theorem's own. -/
namespace Go.Proofs.YtkdngpiiecmpgaaGreat.Ch
open Go Go.K Go.Proofs Go.Proofs.YtkdngpiiecmpgaaGreat Go.Proofs.YtkdngpiiecmpgaaGreat.Pg Go.Proofs.YtkdngpiiecmpgaaGreat.Rc
set_option linter.unusedVariables false
set_option linter.unusedSimpArgs false
set_option maxRecDepth 10000

theorem CloFind (h : Base) (c : List Value) (x : PImg) (n : Nat) (hx : ImgC h c x) : TrV Tryz.prog 109 [.agg c.toArray, .int .u32 n] h [] (.int .i64 (cmpQ x.page n)) [] := by
 obtain ⟨hpg, cs, rfl, hpc⟩ := hx
 obtain ⟨_, cv, rfl, es5, hv5, _⟩ := hpc
 obtain ⟨ao5, ca5, rfl⟩ := hv5.len
 refine K.enter Tryz.func109 rfl (Nat.le_of_ble_eq_true rfl) (fun F => ?_)
 simp only [List.nil_append]
 (repeat' (first | refine X.rq ?_ | (refine X.rc ?_ ?_ <;> intro hc <;> first | (exfalso; omega) | skip)))
 refine K.l_box rfl rfl rfl (fun B2 => ?_)
 (repeat' (first | refine X.rq ?_ | (refine X.rc ?_ ?_ <;> intro hc <;> first | (exfalso; omega) | skip)))
 refine K.l_callV (Fx.cal rfl) rfl (KCmp32 h x.page n) (K.pp [] rfl) rfl rfl ?_
 simp only [List.nil_append]
 (repeat' (first | refine X.rq ?_ | (refine X.rc ?_ ?_ <;> intro hc <;> first | (exfalso; omega) | skip)))
 refine K.AT.drop ?_
 refine K.done (by first | exact Or.inl rfl | exact Or.inr rfl) rfl (by first | exact K.Base.le.refl _ | assumption) (H' := []) rfl ⟨rfl, rfl, rfl⟩
set_option maxHeartbeats 4000000 in
theorem BSearchI (h : Base) (f : FuncId) (hcal : Callable Tryz.prog f) (v u : Value) (es : List (List Value)) (cmp : Nat → Int) (hv : SL h 5 v es) (hl : es.length ≤ 1000000) (hz : ∀ c ∈ es, c.length = 5)
  (hp : ∀ j cs, es[j]? = some cs → TrV Tryz.prog f [.agg cs.toArray, u] h [] (.int .i64 (cmp j)) []) (hmono : ∀ j k, j ≤ k → k < es.length → 0 ≤ cmp j → 0 ≤ cmp k) :
  Tr Tryz.prog 108 [v, u, .func (.func f) #[] #[]] h []
   (fun w h' H' => h' = h ∧ H' = [] ∧ ∃ (i : Nat) (b : Bool), w = .tuple #[.int .i64 i, .bool b] ∧ i ≤ es.length ∧ (∀ j, j < i → cmp j < 0) ∧ (∀ j, i ≤ j → j < es.length → 0 ≤ cmp j) ∧ b = decide (i < es.length ∧ cmp i = 0)) := by
 obtain ⟨ao, ca, rfl⟩ := hv.len
 refine K.enter Tryz.func108 rfl (Nat.le_of_ble_eq_true rfl) (fun F => ?_)
 simp only [List.nil_append]
 (repeat' (first | refine X.rq ?_ | (refine X.rc ?_ ?_ <;> intro hc <;> first | (exfalso; omega) | skip)))
 refine K.c_loop (σ := Nat × Nat) (fun q => [(0, .slice ao es.length ca), (1, u), (2, .func (.func f) #[] #[]), (8, .int .i64 es.length), (9, .int .i64 q.1), (10, .int .i64 q.2)]) (fun _ => h) (fun _ => F)
  (fun q => q.1 ≤ q.2 ∧ q.2 ≤ es.length ∧ (∀ j, j < q.1 → cmp j < 0) ∧ ∀ j, q.2 ≤ j → j < es.length → 0 ≤ cmp j) (fun q => q.2 - q.1) (0, es.length) ⟨Nat.zero_le _, Nat.le_refl _, fun j hj => absurd hj (Nat.not_lt_zero _), fun j h1 h2 => by dsimp only at h1; omega⟩ (by repeat (first | exact K.Sub.nil _ | refine K.Sub.cons rfl ?_)) rfl rfl ?_
 rintro ⟨i, k⟩ ⟨hik, hkl, hlo, hhi⟩ KL hKL
 dsimp only at hik hkl hlo hhi ⊢
 by_cases hlt : i < k
 ·have hm : IntKind.i64.wrap (((i : Int) + (k : Int)).fdiv (2 ^ (min (1 : Int).toNat IntKind.u64.bits))) = (((i + k) / 2 : Nat) : Int) := by
   show IntKind.i64.wrap (((i : Int) + (k : Int)).fdiv 2) = _
   rw [Int.fdiv_eq_ediv_of_nonneg _ (by decide)]
   rw [K.wr_i64 (by omega) (by omega)]
   omega
  have hml : (i + k) / 2 < es.length := by omega
  have hmi : i ≤ (i + k) / 2 ∧ (i + k) / 2 < k := by omega
  have hc1 : es[(i + k) / 2]? = some es[(i + k) / 2] := List.getElem?_eq_getElem hml
  have hc0 : es[(((i + k) / 2 : Nat) : Int).toNat]? = some es[(i + k) / 2] := by rw [Int.toNat_natCast]; exact hc1
  have hzj : es[(i + k) / 2].length = 5 := hz _ (List.getElem_mem hml)
  generalize es[(i + k) / 2] = c at hc0 hc1 hzj
  (repeat' (first | refine X.rq ?_ | (refine X.rc ?_ ?_ <;> intro hc <;> first | (exfalso; omega) | skip)))
  rw [hm]
  generalize (i + k) / 2 = m at hml hmi hc0 hc1
  refine K.s_pureE (K.p_indexL hv (Fx.und rfl) (Fx.sz rfl) rfl rfl (by omega) hc0) rfl ?_
  rintro v2 ⟨b, o, rfl, hcel⟩
  refine K.s_pure (K.p_loadM (Fx.agg rfl) rfl (Cels.up hcel) (Fx.sz rfl) hzj) rfl ?_
  (repeat' (first | refine X.rq ?_ | (refine X.rc ?_ ?_ <;> intro hc <;> first | (exfalso; omega) | skip)))
  refine K.l_callF (vals := [.agg c.toArray, u]) (caps := []) hcal rfl rfl (hp m c hc1) (K.pp [] rfl) rfl ?_
  rintro w h' H' - ⟨rfl, e, rfl⟩
  obtain rfl := e.symm
  simp only [List.nil_append]
  have hmm := hmono m
  generalize hcm : cmp m = cm at hmm
  (repeat' (first | refine X.rq ?_ | (refine X.rc ?_ ?_ <;> intro hc <;> first | (exfalso; omega) | skip)))
  ·refine K.a_round hKL (m + 1, k) ⟨by dsimp only; omega, hkl, fun j hj => ?_, hhi⟩ (by repeat (first | exact K.Sub.nil _ | refine K.Sub.cons rfl ?_)) rfl rfl (by dsimp only; omega)
   dsimp only at hj
   by_cases h0 : 0 ≤ cmp j
   ·have := hmono j m (by omega) hml h0
    rw [hcm] at this; omega
   ·omega
  ·refine K.a_round hKL (i, m) ⟨by dsimp only; omega, by dsimp only; omega, hlo, fun j h1 h2 => hmm j h1 h2 (by omega)⟩ (by repeat (first | exact K.Sub.nil _ | refine K.Sub.cons rfl ?_)) rfl rfl (by dsimp only; omega)
 ·obtain rfl : i = k := by omega
  by_cases hin : i < es.length
  ·have hc1 : es[i]? = some es[i] := List.getElem?_eq_getElem hin
   have hc0 : es[((i : Nat) : Int).toNat]? = some es[i] := by rw [Int.toNat_natCast]; exact hc1
   have hzj : es[i].length = 5 := hz _ (List.getElem_mem hin)
   generalize es[i] = c at hc0 hc1 hzj
   (repeat' (first | refine X.rq ?_ | (refine X.rc ?_ ?_ <;> intro hc <;> first | (exfalso; omega) | skip)))
   refine K.s_pureE (K.p_indexL hv (Fx.und rfl) (Fx.sz rfl) rfl rfl (by omega) hc0) rfl ?_
   rintro v2 ⟨b, o, rfl, hcel⟩
   refine K.s_take rfl rfl ?_
   refine K.s_pure (K.p_loadM (Fx.agg rfl) rfl (Cels.up hcel) (Fx.sz rfl) hzj) rfl ?_
   (repeat' (first | refine X.rq ?_ | (refine X.rc ?_ ?_ <;> intro hc <;> first | (exfalso; omega) | skip)))
   refine K.l_callF (vals := [.agg c.toArray, u]) (caps := []) hcal rfl rfl (hp i c hc1) (K.pp [] rfl) rfl ?_
   rintro w h' H' - ⟨rfl, e, rfl⟩
   obtain rfl := e.symm
   simp only [List.nil_append]
   (repeat' (first | refine X.rq ?_ | (refine X.rc ?_ ?_ <;> intro hc <;> first | (exfalso; omega) | skip)))
   refine K.done (by first | exact Or.inl rfl | exact Or.inr rfl) rfl (by first | exact K.Base.le.refl _ | assumption) (H' := []) rfl ⟨rfl, rfl, i, _, rfl, hkl, hlo, hhi, ?_⟩
   rw [decide_eq_decide]
   exact ⟨fun e => ⟨hin, e⟩, fun e => e.2⟩
  ·(repeat' (first | refine X.rq ?_ | (refine X.rc ?_ ?_ <;> intro hc <;> first | (exfalso; omega) | skip)))
   refine K.done (by first | exact Or.inl rfl | exact Or.inr rfl) rfl (by first | exact K.Base.le.refl _ | assumption) (H' := []) rfl ⟨rfl, rfl, i, _, rfl, hkl, hlo, hhi, ?_⟩
   exact (decide_eq_false (fun e => hin e.1)).symm
def plcI (l : List PImg) (n : Nat) : Nat := (l.takeWhile fun x => decide (x.page < n)).length
def plcB (l : List PImg) (n : Nat) : Bool := match l[plcI l n]? with
 | some x => decide (x.page = n)
 | none => false
theorem plc_of {l : List PImg} {n i : Nat} (hi : i ≤ l.length) (h1 : ∀ j x, j < i → l[j]? = some x → x.page < n) (h2 : ∀ x, l[i]? = some x → n ≤ x.page) : plcI l n = i := by
 unfold plcI
 induction l generalizing i with
 | nil => simp at hi; subst hi; rfl
 | cons y l ih =>
  cases i with
  | zero =>
   have := h2 y rfl
   rw [List.takeWhile_cons, if_neg (by simp; omega)]; rfl
  | succ i =>
   have := h1 0 y (by omega) rfl
   rw [List.takeWhile_cons, if_pos (by simp; omega), List.length_cons, ih (i := i) (by simp at hi; omega) (fun j x hj hx => h1 (j + 1) x (by omega) hx) (fun x hx => h2 x hx)]
set_option maxHeartbeats 4000000 in
theorem CFind (h : Base) (v : Value) (es : List (List Value)) (l : List PImg) (n : Nat) (hv : SL h 5 v es) (hr : RowsG (ImgC h) es l) (hl : l.length ≤ 1000000) (hri : Rising PImg.page l) :
  TrV Tryz.prog 70 [v, .int .u32 n] h [] (.tuple #[.int .i64 (plcI l n : Nat), .bool (plcB l n)]) [] := by
 have hel := hr.1
 have hget : ∀ j, j < es.length → ∃ c x, es[j]? = some c ∧ l[j]? = some x ∧ ImgC h c x := fun j hj =>
  ⟨es[j], l[j]'(by omega), List.getElem?_eq_getElem hj, List.getElem?_eq_getElem (by omega), hr.2 j _ _ (List.getElem?_eq_getElem hj) (List.getElem?_eq_getElem (by omega))⟩
 have hq : ∀ {x y : Nat}, (0 ≤ cmpQ x y ↔ y ≤ x) ∧ (cmpQ x y < 0 ↔ x < y) ∧ (cmpQ x y = 0 ↔ x = y) := fun {x y} => by
  unfold cmpQ
  by_cases h1 : x < y
  ·rw [if_pos h1]; omega
  ·rw [if_neg h1]; by_cases h2 : y < x
   ·rw [if_pos h2]; omega
   ·rw [if_neg h2]; omega
 have hbs := BSearchI h 109 (Fx.cal rfl) v (.int .u32 n) es (fun j => ((l[j]?).map fun x => cmpQ x.page n).getD 0) hv (by omega)
  (fun c hc => by
   obtain ⟨j, hj⟩ := List.mem_iff_getElem?.1 hc
   obtain ⟨hje, _⟩ := List.getElem?_eq_some_iff.1 hj
   obtain ⟨c', x, e1, e2, e3⟩ := hget j hje
   rw [hj] at e1
   obtain rfl := Option.some.inj e1
   exact e3.five)
  (fun j c hc => by
   obtain ⟨hje, _⟩ := List.getElem?_eq_some_iff.1 hc
   obtain ⟨c', x, e1, e2, e3⟩ := hget j hje
   rw [hc] at e1
   obtain rfl := Option.some.inj e1
   rw [e2]
   exact CloFind h c x n e3)
  (fun j k hjk hk h0 => by
   obtain ⟨_, y, _, e2, _⟩ := hget k hk
   obtain ⟨_, x, _, e1, _⟩ := hget j (by omega)
   rw [e1] at h0
   rw [e2]
   have h0 : n ≤ x.page := hq.1.1 h0
   refine hq.1.2 ?_
   by_cases hjk' : j = k
   ·subst hjk'; rw [e1] at e2; obtain rfl := Option.some.inj e2; exact h0
   ·have := List.pairwise_iff_getElem.1 hri j k (by omega) (by omega) (by omega)
    rw [(List.getElem?_eq_some_iff.1 e1).2, (List.getElem?_eq_some_iff.1 e2).2] at this
    omega)
 refine K.enter Tryz.func70 rfl (Nat.le_of_ble_eq_true rfl) (fun F => ?_)
 simp only [List.nil_append]
 (repeat' (first | refine X.rq ?_ | (refine X.rc ?_ ?_ <;> intro hc <;> first | (exfalso; omega) | skip)))
 refine K.l_call (Fx.cal rfl) rfl hbs (K.pp [] rfl) rfl ?_
 rintro u h' H' - ⟨e, rfl, i, b, rfl, hi, hlo, hhi, hb⟩
 obtain rfl := e.symm
 have hpi : plcI l n = i := plc_of (by omega) (fun j x hj hx => by
   have := hlo j hj
   rw [hx] at this
   exact hq.2.1.1 this) (fun x hx => by
   obtain ⟨hil, _⟩ := List.getElem?_eq_some_iff.1 hx
   have := hhi i (Nat.le_refl _) (by omega)
   rw [hx] at this
   exact hq.1.1 this)
 have hpb : plcB l n = b := by
  unfold plcB
  rw [hpi, hb]
  by_cases hil : i < es.length
  ·obtain ⟨_, x, _, e2, _⟩ := hget i hil
   rw [e2]
   exact decide_eq_decide.2 ⟨fun e => ⟨hil, hq.2.2.2 e⟩, fun e => hq.2.2.1 e.2⟩
  ·rw [List.getElem?_eq_none (by omega)]
   exact (decide_eq_false (fun e => hil e.1)).symm
 rw [hpi, hpb]
 simp only [List.nil_append]
 (repeat' (first | refine X.rq ?_ | (refine X.rc ?_ ?_ <;> intro hc <;> first | (exfalso; omega) | skip)))
 refine K.done (by first | exact Or.inl rfl | exact Or.inr rfl) rfl (by first | exact K.Base.le.refl _ | assumption) (H' := []) rfl ⟨rfl, rfl, rfl⟩
end Go.Proofs.YtkdngpiiecmpgaaGreat.Ch
