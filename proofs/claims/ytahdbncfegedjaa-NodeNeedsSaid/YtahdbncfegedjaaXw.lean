/-
  Trees of pages: the walk down a tree; the code's. Conditions: each theorem's own.
-/
import Derived.Test.YtahdbncfegedjaaXv

namespace Go.Proofs.Ytahdbncfegedjaa.Nd
open Go Go.K Go.Proofs Go.Proofs.Ytahdbncfegedjaa Go.Proofs.Ytahdbncfegedjaa.Pg
set_option linter.unusedVariables false
set_option linter.unusedSimpArgs false
set_option maxRecDepth 10000

structure Plc where
  deep : Nat
  lo : List UInt8
  hi : List UInt8
  fin : Bool
abbrev plcV (x : Plc) : List Value := [.int .i64 x.deep, txt x.lo, txt x.hi, .bool x.fin]
/-- What was seen. -/
structure SeenM (m : List K.ME) (c : Nat) (seen : List Nat) : Prop where
  ok : K.MapOk m c
  at_ : ∀ n : Nat, K.look m n = if n ∈ seen then some (.int .i64 1) else none
theorem SeenM.nil : SeenM [] 0 [] := ⟨K.MapOk.nil, fun n => by simp [K.look]⟩
theorem SeenM.put {m : List K.ME} {c : Nat} {seen : List Nat} (hs : SeenM m c seen) (n : Nat) : SeenM (K.putM m c n (.int .i64 1)) (K.putC m c n) (n :: seen) := ⟨hs.ok.put _ _, fun q => by
  rw [K.look_put]
  by_cases h : q = n
  · subst h; simp
  · rw [if_neg (by omega), hs.at_]; simp [h]⟩
def foldE {α σ : Type} (f : σ → α → Except Int σ) : List α → σ → Except Int σ
  | [], s => .ok s
  | a :: l, s => match f s a with
    | .error e => .error e
    | .ok s' => foldE f l s'
def plcAt (x : Plc) (p : Pag) (j : Nat) : Plc := ⟨x.deep + 1, if 0 < j then ((kidsQ p).getD j ([], 0)).1 else x.lo, if j < p.cells.length then keyOf (p.cells.getD j ⟨false, 0, []⟩) else x.hi, if j < p.cells.length then true else x.fin⟩
def kplc (x : Plc) (p : Pag) : List (Nat × Plc) := (List.range (kidsQ p).length).map fun j => (((kidsQ p).getD j ([], 0)).2, plcAt x p j)
section
variable {S : Type} (G : Option GetQ) (vis : S → Nat → Pag → Plc → Except Int S)
def walkQ : Nat → List Nat × S → Nat × Plc → Except Int (List Nat × S)
  | 0, _, _ => .error 5
  | k + 1, s, y => if y.1 ∈ s.1 then .error 5 else match pageQ G y.1 with
    | .error e => .error e
    | .ok p => match vis s.2 y.1 p y.2 with
      | .error e => .error e
      | .ok st => if p.kind = 2 then .ok (y.1 :: s.1, st) else foldE (walkQ k) (kplc y.2 p) (y.1 :: s.1, st)
end
theorem walk_seen {S : Type} {G : Option GetQ} {vis : S → Nat → Pag → Plc → Except Int S} {k n : Nat} {x : Plc} {s : List Nat × S} (h : n ∈ s.1) : walkQ G vis k s (n, x) = .error 5 := by
  cases k with
  | zero => rfl
  | succ k => rw [walkQ, if_pos h]
theorem walk_page {S : Type} {G : Option GetQ} {vis : S → Nat → Pag → Plc → Except Int S} {k n : Nat} {x : Plc} {s : List Nat × S} {e : Int} (h : ¬ n ∈ s.1) (he : pageQ G n = .error e) : walkQ G vis (k + 1) s (n, x) = .error e := by rw [walkQ, if_neg h, he]
theorem walk_vis {S : Type} {G : Option GetQ} {vis : S → Nat → Pag → Plc → Except Int S} {k n : Nat} {x : Plc} {s : List Nat × S} {e : Int} {p : Pag} (h : ¬ n ∈ s.1) (hp : pageQ G n = .ok p) (he : vis s.2 n p x = .error e) : walkQ G vis (k + 1) s (n, x) = .error e := by rw [walkQ, if_neg h, hp]; dsimp only; rw [he]
theorem walk_go {S : Type} {G : Option GetQ} {vis : S → Nat → Pag → Plc → Except Int S} {k n : Nat} {x : Plc} {s : List Nat × S} {st : S} {p : Pag} (h : ¬ n ∈ s.1) (hp : pageQ G n = .ok p) (he : vis s.2 n p x = .ok st) : walkQ G vis (k + 1) s (n, x) = if p.kind = 2 then .ok (n :: s.1, st) else foldE (walkQ G vis k) (kplc x p) (n :: s.1, st) := by rw [walkQ, if_neg h, hp]; dsimp only; rw [he]
theorem kplc_len (x : Plc) (p : Pag) : (kplc x p).length = (kidsQ p).length := by simp [kplc]
theorem kplc_drop {x : Plc} {p : Pag} {pre : List Kid} {y : Kid} (h : pre ++ [y] <+: kidsQ p) : pre.length < (kidsQ p).length ∧ (kidsQ p).getD pre.length ([], 0) = y ∧ (kplc x p).drop pre.length = (y.2, plcAt x p pre.length) :: (kplc x p).drop (pre.length + 1) := by
  obtain ⟨r, hr⟩ := h
  have h1 : (kidsQ p)[pre.length]? = some y := by rw [← hr]; simp
  have h2 := (List.getElem?_eq_some_iff.1 h1).1
  have h3 : (kidsQ p).getD pre.length ([], 0) = y := by rw [List.getD_eq_getElem?_getD, h1]; rfl
  refine ⟨h2, h3, ?_⟩
  have h4 : pre.length < (kplc x p).length := by rw [kplc_len]; exact h2
  rw [List.drop_eq_getElem_cons h4]
  congr 1
  rw [List.getD_eq_getElem?_getD] at h3
  simp [kplc, h3]
theorem kids_len (p : Pag) : (kidsQ p).length = p.cells.length + 1 := by simp [kidsQ]
structure WkS (S : Type) where
  seen : List Nat
  st : S
  m : List K.ME
  c : Nat
  A : Asrt
/-- The memory of a walk among a page's children. -/
def wlkB (B5 B7 B8 B9 B10 B11 B : Nat) (gv : Value) (x : Plc) (pv : List Value) (fv : FuncId) (caps : List Value) (j : Nat) : List Asrt :=
  [blk B11 3 [.int .i64 j], blk B10 55 pv, blk B9 94 [.func (.func fv) #[] caps.toArray], blk B8 117 [.map (some B)], blk B7 92 (plcV x), blk B5 61 [gv]]
def wlkA {S : Type} (B5 B7 B8 B9 B10 B11 B : Nat) (gv : Value) (x : Plc) (pv : List Value) (fv : FuncId) (caps : List Value) (j : Nat) (q : WkS S) : List Asrt :=
  wlkB B5 B7 B8 B9 B10 B11 B gv x pv fv caps j ++ [mapA B .u32 q.m q.c, q.A]
set_option maxHeartbeats 4000000 in
theorem Walk {S : Type} (G : Option GetQ) (AS : List Nat → S → Base → Asrt → Prop) (vis : S → Nat → Pag → Plc → Except Int S) (fv : FuncId) (caps : List Value) (hcal : Callable Try.prog fv) (hAS : ∀ seen st h h' A, h.le h' → AS seen st h A → AS seen st h' A)
    (hvis : ∀ h seen st A n p cs x, n < 4294967296 → PagC h cs p → pageQ G n = .ok p → ¬ n ∈ seen → x.deep ≤ 8 → AS seen st h A → TrX Try.prog fv ([] ++ [uV n, .agg cs.toArray, .agg (plcV x).toArray] ++ caps) h [A] (fun v h' H' => ∃ st' A', vis st n p x = .ok st' ∧ AS (n :: seen) st' h' A' ∧ H' = [A']) (UpE (vis st n p x))) (gv : Value) (B : Nat) :
    ∀ (k : Nat) (h : Base) (n : Nat) (x : Plc) (m : List K.ME) (c : Nat) (seen : List Nat) (st : S) (A : Asrt), x.deep + k = 9 → GetV h gv G → n < 4294967296 → SeenM m c seen → AS seen st h A →
    TrX Try.prog 71 [gv, uV n, .agg (plcV x).toArray, .map (some B), .func (.func fv) #[] caps.toArray] h [mapA B .u32 m c, A] (fun v h' H' => ∃ q : WkS S, walkQ G vis k (seen, st) (n, x) = .ok (q.seen, q.st) ∧ SeenM q.m q.c q.seen ∧ AS q.seen q.st h' q.A ∧ H' = [mapA B .u32 q.m q.c, q.A]) (UpE (walkQ G vis k (seen, st) (n, x))) := by
  intro k
  induction k with
  | zero =>
    intro h n x m c seen st A hk hg hn hs ha
    have hone := hg.one
    refine K.enterMX Try.func71 rfl (Nat.le_of_ble_eq_true rfl) (fun F => K.WB.of ?_)
    (repeat' (first | refine X.rq ?_ | (refine X.rc ?_ ?_ <;> intro hc <;> first | (exfalso; omega) | skip)))
    refine K.l_box rfl hone rfl (fun B5 => ?_)
    refine K.l_box rfl rfl rfl (fun B7 => ?_)
    refine K.l_box rfl rfl rfl (fun B8 => ?_)
    refine K.l_box rfl rfl rfl (fun B9 => ?_)
    (repeat' (first | refine X.rq ?_ | (refine X.rc ?_ ?_ <;> intro hc <;> first | (exfalso; omega) | skip)))
    rw [show decide ((x.deep : Int) ≤ 8) = false from decide_eq_false (by omega)]
    (repeat' (first | refine X.rq ?_ | (refine X.rc ?_ ?_ <;> intro hc <;> first | (exfalso; omega) | skip)))
    refine K.l_callX (Fx.cal rfl) rfl (Need h _ 5) (K.pp [] rfl) rfl ?_ ?_
    · rintro v h' H' hle ⟨e, rfl, e1, rfl⟩
      obtain rfl := e.symm
      repeat (first | with_reducible refine K.a_then_panic ?_ | with_reducible refine K.a_block_panic ?_)
      refine K.AT.marks0 (K.upMX (Ds := []) rfl (List.Perm.refl _) (K.Base.le.refl _) (D := [_, _, _, _, _, _]) (H' := []) rfl ⟨rfl, 5, rfl, rfl⟩)
    rintro v h' H' - ⟨e, rfl, e1⟩
    cases e1
  | succ k ih =>
    intro h n x m c seen st A hk hg hn hs ha
    have hone := hg.one
    refine K.enterMX Try.func71 rfl (Nat.le_of_ble_eq_true rfl) (fun F => K.b_seq (K.WB.of ?_))
    (repeat' (first | refine X.rq ?_ | (refine X.rc ?_ ?_ <;> intro hc <;> first | (exfalso; omega) | skip)))
    refine K.l_box rfl hone rfl (fun B5 => ?_)
    refine K.l_box rfl rfl rfl (fun B7 => ?_)
    refine K.l_box rfl rfl rfl (fun B8 => ?_)
    refine K.l_box rfl rfl rfl (fun B9 => ?_)
    (repeat' (first | refine X.rq ?_ | (refine X.rc ?_ ?_ <;> intro hc <;> first | (exfalso; omega) | skip)))
    refine K.a_thenB (K.b_seq (K.WB.of ?_))
    (repeat' (first | refine X.rq ?_ | (refine X.rc ?_ ?_ <;> intro hc <;> first | (exfalso; omega) | skip)))
    rw [show decide ((x.deep : Int) ≤ 8) = true from decide_eq_true (by omega)]
    (repeat' (first | refine X.rq ?_ | (refine X.rc ?_ ?_ <;> intro hc <;> first | (exfalso; omega) | skip)))
    have hlk := hs.at_ n
    by_cases hin : n ∈ seen
    · rw [if_pos hin] at hlk
      refine K.s_pure (K.p_lookup (v := .int .i64 1) 4 rfl rfl rfl rfl rfl rfl (by rw [hlk]; rfl)) rfl ?_
      (repeat' (first | refine X.rq ?_ | (refine X.rc ?_ ?_ <;> intro hc <;> first | (exfalso; omega) | skip)))
      refine K.l_callX (Fx.cal rfl) rfl (Need h _ 5) (K.pp [] rfl) rfl ?_ ?_
      · rintro v h' H' hle ⟨e, rfl, e1, rfl⟩
        obtain rfl := e.symm
        repeat (first | with_reducible refine K.a_then_panic ?_ | with_reducible refine K.a_block_panic ?_)
        refine K.AT.marks0 (K.upMX (Ds := []) rfl (List.Perm.refl _) (K.Base.le.refl _) (D := [_, _, _, _, _, _]) (H' := []) rfl ⟨rfl, 5, rfl, walk_seen hin⟩)
      rintro v h' H' - ⟨e, rfl, e1⟩
      cases e1
    rw [if_neg hin] at hlk
    refine K.s_pure (K.p_lookup (v := .int .i64 0) 4 rfl rfl rfl rfl rfl rfl (by rw [hlk]; rfl)) rfl ?_
    (repeat' (first | refine X.rq ?_ | (refine X.rc ?_ ?_ <;> intro hc <;> first | (exfalso; omega) | skip)))
    refine K.l_callX (Fx.cal rfl) rfl (Need h _ 5) (K.pp [] rfl) rfl ?_ ?_
    · rintro v h' H' hle ⟨e, rfl, e1, rfl⟩
      cases e1
    rintro v h' H' - ⟨e, rfl, e1⟩
    obtain rfl := e.symm
    clear e1
    simp only [List.set_cons_zero, List.set_cons_succ, List.eraseIdx_cons_zero, List.eraseIdx_cons_succ, List.cons_append, List.nil_append]
    (repeat' (first | refine X.rq ?_ | (refine X.rc ?_ ?_ <;> intro hc <;> first | (exfalso; omega) | skip)))
    refine K.a_thenB (K.b_seq (K.WB.of ?_))
    (repeat' (first | refine X.rq ?_ | (refine X.rc ?_ ?_ <;> intro hc <;> first | (exfalso; omega) | skip)))
    refine K.l_callX (Fx.cal rfl) rfl (PGPage h gv G n hg hn) (K.pp [] rfl) rfl ?_ ?_
    · rintro v h' H' hle ⟨rfl, e, rfl, he⟩
      repeat (first | with_reducible refine K.a_then_panic ?_ | with_reducible refine K.a_block_panic ?_)
      refine K.AT.marks0 (K.upMX (Ds := []) rfl (List.Perm.refl _) hle (D := [_, _, _, _, _, _]) (H' := []) rfl ⟨rfl, e, rfl, walk_page hin he⟩)
    rintro v h' H' - ⟨e, rfl, p, cs, rfl, hpc, hpq⟩
    obtain rfl := e.symm
    have hgd := page_good hpq
    have hpc0 := hpc
    obtain ⟨hw, cv, rfl, ef, hsl, hel, hcs⟩ := hpc
    obtain ⟨ao, ca, rfl⟩ := hsl.len
    rw [hel] at hsl hpc0 ⊢
    refine K.l_alloc (Fx.zr rfl) rfl rfl (fun B10 => ?_)
    refine X.stw ?_
    simp only [List.set_cons_zero, List.set_cons_succ, List.eraseIdx_cons_zero, List.eraseIdx_cons_succ, List.cons_append, List.nil_append]
    (repeat' (first | refine X.rq ?_ | (refine X.rc ?_ ?_ <;> intro hc <;> first | (exfalso; omega) | skip)))
    refine K.a_thenB (K.b_seq (K.WB.of ?_))
    (repeat' (first | refine X.rq ?_ | (refine X.rc ?_ ?_ <;> intro hc <;> first | (exfalso; omega) | skip)))
    refine K.s_pure (K.p_lookup (v := .int .i64 0) 5 rfl rfl rfl rfl rfl rfl (by rw [hlk]; rfl)) rfl ?_
    (repeat' (first | refine X.rq ?_ | (refine X.rc ?_ ?_ <;> intro hc <;> first | (exfalso; omega) | skip)))
    rw [show (0 : Int) + 1 = 1 from rfl]
    refine K.l_update_at 5 rfl rfl rfl hs.ok rfl rfl rfl ?_
    have hs1 := hs.put n
    simp only [List.set_cons_zero, List.set_cons_succ, List.eraseIdx_cons_zero, List.eraseIdx_cons_succ, List.cons_append, List.nil_append]
    (repeat' (first | refine X.rq ?_ | (refine X.rc ?_ ?_ <;> intro hc <;> first | (exfalso; omega) | skip)))
    refine K.a_thenB (K.b_seq (K.WB.of ?_))
    (repeat' (first | refine X.rq ?_ | (refine X.rc ?_ ?_ <;> intro hc <;> first | (exfalso; omega) | skip)))
    refine K.l_callXB (fst := []) hcal rfl rfl (hvis h seen st A n p _ x hn hpc0 hpq hin (by omega) ha) (K.pp [6] rfl) rfl ?_ ?_
    · rintro v h' H' hle ⟨rfl, e, rfl, he⟩
      repeat (first | with_reducible refine K.a_then_panic ?_ | with_reducible refine K.a_block_panic ?_)
      refine K.AT.marks0 (K.upMX (Ds := []) rfl (List.Perm.refl _) hle (D := [_, _, _, _, _, _]) (H' := []) rfl ⟨rfl, e, rfl, walk_vis hin hpq he⟩)
    rintro v h1 H' hle1 ⟨st1, A1, he1, ha1, rfl⟩
    have hgo := walk_go (k := k) (x := x) (s := (seen, st)) hin hpq he1
    simp only [List.set_cons_zero, List.set_cons_succ, List.eraseIdx_cons_zero, List.eraseIdx_cons_succ, List.cons_append, List.nil_append]
    (repeat' (first | refine X.rq ?_ | (refine X.rc ?_ ?_ <;> intro hc <;> first | (exfalso; omega) | skip)))
    refine K.a_thenB (K.b_seq (K.WB.of ?_))
    (repeat' (first | refine X.rq ?_ | (refine X.rc ?_ ?_ <;> intro hc <;> first | (exfalso; omega) | skip)))
    · have h2 : p.kind = 2 := by assumption
      refine K.AT.sel [1, 1, 1, 1, 1] rfl ?_
      refine K.AT.perm (List.Perm.swap _ _ _) (K.AT.marks0 ?_)
      refine K.doneMX (Ds := []) (.inl rfl) rfl (List.Perm.refl _) (vs := []) .nil hle1 (D := []) (H' := [_, _]) rfl ⟨⟨n :: seen, st1, _, _, A1⟩, by rw [hgo, if_pos h2], hs1, ha1, rfl⟩
    have h2 : ¬ p.kind = 2 := by assumption
    rw [if_neg h2] at hgo
    have hbg := big_of hgd h2
    have hpc1 := hpc0.le hle1
    refine K.a_thenB (K.b_seq (K.WB.of ?_))
    (repeat' (first | refine X.rq ?_ | (refine X.rc ?_ ?_ <;> intro hc <;> first | (exfalso; omega) | skip)))
    refine K.l_alloc (Fx.zr rfl) rfl rfl (fun B11 => ?_)
    refine X.sto ?_
    simp only [List.set_cons_zero, List.set_cons_succ, List.eraseIdx_cons_zero, List.eraseIdx_cons_succ, List.cons_append, List.nil_append]
    (repeat' (first | refine X.rq ?_ | (refine X.rc ?_ ?_ <;> intro hc <;> first | (exfalso; omega) | skip)))
    refine K.a_thenB (K.b_seq (K.WB.of ?_))
    (repeat' (first | refine X.rq ?_ | (refine X.rc ?_ ?_ <;> intro hc <;> first | (exfalso; omega) | skip)))
    refine K.l_call (Fx.cal rfl) rfl (Children h1 p _) (K.pp [] rfl) rfl ?_
    rintro v h' H' - ⟨e, BK, rfl, rfl⟩
    obtain rfl := e.symm
    simp only [List.set_cons_zero, List.set_cons_succ, List.eraseIdx_cons_zero, List.eraseIdx_cons_succ, List.cons_append, List.nil_append]
    (repeat' (first | refine X.rq ?_ | (refine X.rc ?_ ?_ <;> intro hc <;> first | (exfalso; omega) | skip)))
    refine K.a_thenB (K.b_block ?_)
    refine K.WB.closed (K.pp [1, 2, 2, 2, 2, 2, 2, 1] rfl) ?_
    refine K.c_rangeX (h := h1) (Pre := [blk BK 55 (cP p (.slice ao p.cells.length ca))]) (F := F)
      (fun pre hq A => ∃ q : WkS S, A = all (wlkA B5 B7 B8 B9 B10 B11 B gv x (cP p (.slice ao p.cells.length ca)) fv caps pre.length q) ∧ SeenM q.m q.c q.seen ∧ AS q.seen q.st hq q.A ∧ walkQ G vis (k + 1) (seen, st) (n, x) = foldE (walkQ G vis k) ((kplc x p).drop pre.length) (q.seen, q.st))
      (fun _ _ _ _ => False)
      (fun v pre hq A => (∃ j, A = all (wlkB B5 B7 B8 B9 B10 B11 B gv x (cP p (.slice ao p.cells.length ca)) fv caps j)) ∧ ∃ e, v = failV e ∧ walkQ G vis (k + 1) (seen, st) (n, x) = .error e)
      (fun x args => [(12, txt x.1), (13, uV x.2), (5, .pointer (some ⟨B5, 0, none⟩)), (7, .pointer (some ⟨B7, 0, none⟩)), (8, .pointer (some ⟨B8, 0, none⟩)), (9, .pointer (some ⟨B9, 0, none⟩)), (10, .pointer (some ⟨B10, 0, none⟩)), (11, .pointer (some ⟨B11, 0, none⟩))])
      (KidsI h1 _ p BK hpc1 hbg) rfl (Fx.cal rfl) (fun h x args ⟨e, _⟩ => by rw [e]; rfl) rfl (fun _ _ _ _ hl ⟨q, a, b, c, d⟩ => ⟨q, a, b, hAS _ _ _ _ _ hl c, d⟩) (fun _ _ _ _ _ hl e => e.elim) (fun _ _ _ _ _ _ e => e) (List.Perm.swap _ _ _)
      ⟨⟨n :: seen, st1, _, _, A1⟩, rfl, hs1, ha1, hgo⟩ ?_ ?_ ?_ ?_ ?_
    · rintro l x h' args A R hle ⟨rfl, hx2⟩
      refine K.r_seq (K.r_region rfl (fun _ _ x => x) ?_)
      refine K.s_pure (K.p_assign rfl) rfl (K.l_nil (K.a_thenR ?_))
      refine K.r_region rfl (fun _ _ x => x) ?_
      refine K.s_pure (K.p_assign rfl) rfl (K.l_nil (K.a_AP (by repeat (first | exact K.Sub.nil _ | refine K.Sub.cons rfl ?_))))
    · rintro l0 pre y h2' args A R hle ⟨r, hr⟩ ⟨rfl, hy⟩ ⟨⟨seen2, st2, m2, c2, A2⟩, rfl, hs2, ha2, hq2⟩
      simp only at hs2 ha2 hq2
      obtain ⟨hj, hyj, hdr⟩ := kplc_drop (x := x) ⟨r, hr⟩
      rw [kids_len] at hj
      rw [hdr] at hq2
      have hg2 := hg.le (hle1.trans hle)
      refine K.WR.open ?_
      unfold wlkA wlkB
      simp only [List.set_cons_zero, List.set_cons_succ, List.eraseIdx_cons_zero, List.eraseIdx_cons_succ, List.cons_append, List.nil_append]
      have hk23 := (good_data hgd).1
      have hk3 : p.kind = 3 := by omega
      have hne := ((good_data hgd).2.2.2 hk3).2
      have hpc2 := hpc1.le hle
      obtain ⟨_, cv2, e2, es2, hsl2, hel2, hcs2⟩ := hpc2
      obtain rfl : Value.slice ao p.cells.length ca = cv2 := by simpa [cP] using e2
      have hlen := hw.len
      have h60 := (good_data hgd).2.1
      refine K.r_block (K.r_seq (K.r_region rfl (fun _ _ x => x) ?_))
      (repeat' (first | refine X.rq ?_ | (refine X.rc ?_ ?_ <;> intro hc <;> first | (exfalso; omega) | skip)))
      refine K.l_alloc (Fx.zr rfl) rfl rfl (fun B14 => ?_)
      rw [show (x.deep : Int) + 1 = ((x.deep + 1 : Nat) : Int) from rfl]
      refine X.stw ?_
      simp only [List.set_cons_zero, List.set_cons_succ, List.eraseIdx_cons_zero, List.eraseIdx_cons_succ, List.cons_append, List.nil_append]
      (repeat' (first | refine X.rq ?_ | (refine X.rc ?_ ?_ <;> intro hc <;> first | (exfalso; omega) | skip)))
      refine K.a_thenR (K.r_seq (K.r_seq (K.r_region rfl (fun _ _ x => x) ?_)))
      (repeat' (first | refine X.rq ?_ | (refine X.rc ?_ ?_ <;> intro hc <;> first | (exfalso; omega) | skip)))
      rcases Nat.eq_zero_or_pos pre.length with hp0 | hp0
      · obtain ⟨cc, hcj⟩ : ∃ c, p.cells[pre.length]? = some c := ⟨_, List.getElem?_eq_getElem (by omega)⟩
        obtain ⟨ce, hcz⟩ : ∃ c, es2[(pre.length : Int).toNat]? = some c := ⟨_, List.getElem?_eq_getElem (by omega)⟩
        have hcc := hcs2 pre.length ce cc hcz hcj
        have hdc : 4 ≤ cc.data.length := hbg cc (List.mem_of_getElem? hcj)
        have hgc : p.cells.getD pre.length ⟨false, 0, []⟩ = cc := by rw [List.getD_eq_getElem?_getD, hcj]; rfl
        refine K.a_thenR (K.r_condD rfl (fun hc => absurd hc (by omega)) (fun _ => ?_))
        refine K.r_skip ?_
        refine K.a_thenR (K.r_seq (K.r_seq (K.r_region rfl (fun _ _ x => x) ?_)))
        (repeat' (first | refine X.rq ?_ | (refine X.rc ?_ ?_ <;> intro hc <;> first | (exfalso; omega) | skip)))
        refine K.a_thenR (K.r_condD rfl (fun _ => ?_) (fun hc => absurd (by omega) hc))
        refine K.r_seq (K.r_region rfl (fun _ _ x => x) ?_)
        (repeat' (first | refine X.rq ?_ | (refine X.rc ?_ ?_ <;> intro hc <;> first | (exfalso; omega) | skip)))
        refine K.s_pureE (K.p_indexL hsl2 (Fx.und rfl) (Fx.sz rfl) rfl rfl (by omega) hcz) rfl ?_
        rintro v2 ⟨b, o, rfl, hcel⟩
        have hcc0 := hcc
        obtain ⟨hkl3, hdl3, ao3, ca3, rfl, hbv3⟩ := hcc
        refine K.s_pure (K.p_loadM (Fx.agg rfl) rfl (Cels.up hcel) (Fx.sz rfl) rfl) rfl ?_
        (repeat' (first | refine X.rq ?_ | (refine X.rc ?_ ?_ <;> intro hc <;> first | (exfalso; omega) | skip)))
        refine K.l_callV (Fx.cal rfl) rfl (SplitC h2' _ cc hcc0 hdc) (K.pp [] rfl) rfl rfl ?_
        simp only [List.set_cons_zero, List.set_cons_succ, List.eraseIdx_cons_zero, List.eraseIdx_cons_succ, List.cons_append, List.nil_append]
        (repeat' (first | refine X.rq ?_ | (refine X.rc ?_ ?_ <;> intro hc <;> first | (exfalso; omega) | skip)))
        refine X.sto ?_
        simp only [List.set_cons_zero, List.set_cons_succ, List.eraseIdx_cons_zero, List.eraseIdx_cons_succ, List.cons_append, List.nil_append]
        (repeat' (first | refine X.rq ?_ | (refine X.rc ?_ ?_ <;> intro hc <;> first | (exfalso; omega) | skip)))
        refine K.a_thenR (K.r_region rfl (fun _ _ x => x) ?_)
        (repeat' (first | refine X.rq ?_ | (refine X.rc ?_ ?_ <;> intro hc <;> first | (exfalso; omega) | skip)))
        refine X.sto ?_
        simp only [List.set_cons_zero, List.set_cons_succ, List.eraseIdx_cons_zero, List.eraseIdx_cons_succ, List.cons_append, List.nil_append]
        (repeat' (first | refine X.rq ?_ | (refine X.rc ?_ ?_ <;> intro hc <;> first | (exfalso; omega) | skip)))
        refine K.a_thenR (K.r_seq (K.r_region rfl (fun _ _ x => x) ?_))
        (repeat' (first | refine X.rq ?_ | (refine X.rc ?_ ?_ <;> intro hc <;> first | (exfalso; omega) | skip)))
        have hih := ih h2' y.2 (plcAt x p pre.length) m2 c2 seen2 st2 A2 (by show x.deep + 1 + k = 9; omega) hg2 hy hs2 ha2
        rw [show plcV (plcAt x p pre.length) = [.int .i64 ((x.deep + 1 : Nat) : Int), txt x.lo, txt (keyOf cc), .bool true] by unfold plcV plcAt; rw [hgc, if_neg (by omega), if_pos (by omega), if_pos (by omega)]] at hih
        refine K.l_callX (Fx.cal rfl) rfl hih (K.pp [7, 7] rfl) rfl ?_ ?_
        · rintro v h' H' hle5 ⟨rfl, e, rfl, he⟩
          repeat (first | with_reducible refine K.a_then_panic ?_ | with_reducible refine K.a_block_panic ?_)
          refine K.AT.drop (K.AT.closed (Hs := wlkB B5 B7 B8 B9 B10 B11 B gv x (cP p (.slice ao p.cells.length ca)) fv caps pre.length) (List.Perm.refl _) (K.a_RXup hle5 ⟨⟨pre.length, rfl⟩, e, rfl, ?_⟩ (List.Perm.refl _)))
          rw [hq2, foldE, he]
        rintro v h5 H' hle5 ⟨⟨seen3, st3, m3, c3, A3⟩, hq3, hs3, ha3, rfl⟩
        simp only at hq3 hs3 ha3
        simp only [List.set_cons_zero, List.set_cons_succ, List.eraseIdx_cons_zero, List.eraseIdx_cons_succ, List.cons_append, List.nil_append]
        (repeat' (first | refine X.rq ?_ | (refine X.rc ?_ ?_ <;> intro hc <;> first | (exfalso; omega) | skip)))
        refine K.a_thenR (K.r_region rfl (fun _ _ x => x) ?_)
        (repeat' (first | refine X.rq ?_ | (refine X.rc ?_ ?_ <;> intro hc <;> first | (exfalso; omega) | skip)))
        refine X.sto ?_
        simp only [List.set_cons_zero, List.set_cons_succ, List.eraseIdx_cons_zero, List.eraseIdx_cons_succ, List.cons_append, List.nil_append]
        (repeat' (first | refine X.rq ?_ | (refine X.rc ?_ ?_ <;> intro hc <;> first | (exfalso; omega) | skip)))
        refine K.AT.sel [2] rfl ?_
        refine K.AT.closed (Hs := wlkA B5 B7 B8 B9 B10 B11 B gv x (cP p (.slice ao p.cells.length ca)) fv caps (pre.length + 1) ⟨seen3, st3, m3, c3, A3⟩) (K.pp [2, 2, 2, 2, 2, 2, 0, 0] rfl) (K.a_RX hle5 ⟨⟨seen3, st3, m3, c3, A3⟩, by rw [List.length_append]; rfl, hs3, ha3, ?_⟩ (List.Perm.refl _))
        rw [hq2, foldE, hq3, List.length_append]
        rfl
      by_cases hpl : pre.length < p.cells.length
      · obtain ⟨cc, hcj⟩ : ∃ c, p.cells[pre.length]? = some c := ⟨_, List.getElem?_eq_getElem (by omega)⟩
        obtain ⟨ce, hcz⟩ : ∃ c, es2[(pre.length : Int).toNat]? = some c := ⟨_, List.getElem?_eq_getElem (by omega)⟩
        have hcc := hcs2 pre.length ce cc hcz hcj
        have hdc : 4 ≤ cc.data.length := hbg cc (List.mem_of_getElem? hcj)
        have hgc : p.cells.getD pre.length ⟨false, 0, []⟩ = cc := by rw [List.getD_eq_getElem?_getD, hcj]; rfl
        refine K.a_thenR (K.r_condD rfl (fun _ => ?_) (fun hc => absurd (by omega) hc))
        refine K.r_region rfl (fun _ _ x => x) ?_
        (repeat' (first | refine X.rq ?_ | (refine X.rc ?_ ?_ <;> intro hc <;> first | (exfalso; omega) | skip)))
        refine X.sto ?_
        simp only [List.set_cons_zero, List.set_cons_succ, List.eraseIdx_cons_zero, List.eraseIdx_cons_succ, List.cons_append, List.nil_append]
        (repeat' (first | refine X.rq ?_ | (refine X.rc ?_ ?_ <;> intro hc <;> first | (exfalso; omega) | skip)))
        refine K.a_thenR (K.r_seq (K.r_seq (K.r_region rfl (fun _ _ x => x) ?_)))
        (repeat' (first | refine X.rq ?_ | (refine X.rc ?_ ?_ <;> intro hc <;> first | (exfalso; omega) | skip)))
        refine K.a_thenR (K.r_condD rfl (fun _ => ?_) (fun hc => absurd (by omega) hc))
        refine K.r_seq (K.r_region rfl (fun _ _ x => x) ?_)
        (repeat' (first | refine X.rq ?_ | (refine X.rc ?_ ?_ <;> intro hc <;> first | (exfalso; omega) | skip)))
        refine K.s_pureE (K.p_indexL hsl2 (Fx.und rfl) (Fx.sz rfl) rfl rfl (by omega) hcz) rfl ?_
        rintro v2 ⟨b, o, rfl, hcel⟩
        have hcc0 := hcc
        obtain ⟨hkl3, hdl3, ao3, ca3, rfl, hbv3⟩ := hcc
        refine K.s_pure (K.p_loadM (Fx.agg rfl) rfl (Cels.up hcel) (Fx.sz rfl) rfl) rfl ?_
        (repeat' (first | refine X.rq ?_ | (refine X.rc ?_ ?_ <;> intro hc <;> first | (exfalso; omega) | skip)))
        refine K.l_callV (Fx.cal rfl) rfl (SplitC h2' _ cc hcc0 hdc) (K.pp [] rfl) rfl rfl ?_
        simp only [List.set_cons_zero, List.set_cons_succ, List.eraseIdx_cons_zero, List.eraseIdx_cons_succ, List.cons_append, List.nil_append]
        (repeat' (first | refine X.rq ?_ | (refine X.rc ?_ ?_ <;> intro hc <;> first | (exfalso; omega) | skip)))
        refine X.sto ?_
        simp only [List.set_cons_zero, List.set_cons_succ, List.eraseIdx_cons_zero, List.eraseIdx_cons_succ, List.cons_append, List.nil_append]
        (repeat' (first | refine X.rq ?_ | (refine X.rc ?_ ?_ <;> intro hc <;> first | (exfalso; omega) | skip)))
        refine K.a_thenR (K.r_region rfl (fun _ _ x => x) ?_)
        (repeat' (first | refine X.rq ?_ | (refine X.rc ?_ ?_ <;> intro hc <;> first | (exfalso; omega) | skip)))
        refine X.sto ?_
        simp only [List.set_cons_zero, List.set_cons_succ, List.eraseIdx_cons_zero, List.eraseIdx_cons_succ, List.cons_append, List.nil_append]
        (repeat' (first | refine X.rq ?_ | (refine X.rc ?_ ?_ <;> intro hc <;> first | (exfalso; omega) | skip)))
        refine K.a_thenR (K.r_seq (K.r_region rfl (fun _ _ x => x) ?_))
        (repeat' (first | refine X.rq ?_ | (refine X.rc ?_ ?_ <;> intro hc <;> first | (exfalso; omega) | skip)))
        have hih := ih h2' y.2 (plcAt x p pre.length) m2 c2 seen2 st2 A2 (by show x.deep + 1 + k = 9; omega) hg2 hy hs2 ha2
        rw [show plcV (plcAt x p pre.length) = [.int .i64 ((x.deep + 1 : Nat) : Int), txt y.1, txt (keyOf cc), .bool true] by unfold plcV plcAt; rw [hgc, hyj, if_pos hp0, if_pos (by omega), if_pos (by omega)]] at hih
        refine K.l_callX (Fx.cal rfl) rfl hih (K.pp [7, 7] rfl) rfl ?_ ?_
        · rintro v h' H' hle5 ⟨rfl, e, rfl, he⟩
          repeat (first | with_reducible refine K.a_then_panic ?_ | with_reducible refine K.a_block_panic ?_)
          refine K.AT.drop (K.AT.closed (Hs := wlkB B5 B7 B8 B9 B10 B11 B gv x (cP p (.slice ao p.cells.length ca)) fv caps pre.length) (List.Perm.refl _) (K.a_RXup hle5 ⟨⟨pre.length, rfl⟩, e, rfl, ?_⟩ (List.Perm.refl _)))
          rw [hq2, foldE, he]
        rintro v h5 H' hle5 ⟨⟨seen3, st3, m3, c3, A3⟩, hq3, hs3, ha3, rfl⟩
        simp only at hq3 hs3 ha3
        simp only [List.set_cons_zero, List.set_cons_succ, List.eraseIdx_cons_zero, List.eraseIdx_cons_succ, List.cons_append, List.nil_append]
        (repeat' (first | refine X.rq ?_ | (refine X.rc ?_ ?_ <;> intro hc <;> first | (exfalso; omega) | skip)))
        refine K.a_thenR (K.r_region rfl (fun _ _ x => x) ?_)
        (repeat' (first | refine X.rq ?_ | (refine X.rc ?_ ?_ <;> intro hc <;> first | (exfalso; omega) | skip)))
        refine X.sto ?_
        simp only [List.set_cons_zero, List.set_cons_succ, List.eraseIdx_cons_zero, List.eraseIdx_cons_succ, List.cons_append, List.nil_append]
        (repeat' (first | refine X.rq ?_ | (refine X.rc ?_ ?_ <;> intro hc <;> first | (exfalso; omega) | skip)))
        refine K.AT.sel [2] rfl ?_
        refine K.AT.closed (Hs := wlkA B5 B7 B8 B9 B10 B11 B gv x (cP p (.slice ao p.cells.length ca)) fv caps (pre.length + 1) ⟨seen3, st3, m3, c3, A3⟩) (K.pp [2, 2, 2, 2, 2, 2, 0, 0] rfl) (K.a_RX hle5 ⟨⟨seen3, st3, m3, c3, A3⟩, by rw [List.length_append]; rfl, hs3, ha3, ?_⟩ (List.Perm.refl _))
        rw [hq2, foldE, hq3, List.length_append]
        rfl
      · refine K.a_thenR (K.r_condD rfl (fun _ => ?_) (fun hc => absurd (by omega) hc))
        refine K.r_region rfl (fun _ _ x => x) ?_
        (repeat' (first | refine X.rq ?_ | (refine X.rc ?_ ?_ <;> intro hc <;> first | (exfalso; omega) | skip)))
        refine X.sto ?_
        simp only [List.set_cons_zero, List.set_cons_succ, List.eraseIdx_cons_zero, List.eraseIdx_cons_succ, List.cons_append, List.nil_append]
        (repeat' (first | refine X.rq ?_ | (refine X.rc ?_ ?_ <;> intro hc <;> first | (exfalso; omega) | skip)))
        refine K.a_thenR (K.r_seq (K.r_seq (K.r_region rfl (fun _ _ x => x) ?_)))
        (repeat' (first | refine X.rq ?_ | (refine X.rc ?_ ?_ <;> intro hc <;> first | (exfalso; omega) | skip)))
        refine K.a_thenR (K.r_condD rfl (fun hc => absurd hc (by omega)) (fun _ => ?_))
        refine K.r_skip ?_
        refine K.a_thenR (K.r_seq (K.r_region rfl (fun _ _ x => x) ?_))
        (repeat' (first | refine X.rq ?_ | (refine X.rc ?_ ?_ <;> intro hc <;> first | (exfalso; omega) | skip)))
        have hih := ih h2' y.2 (plcAt x p pre.length) m2 c2 seen2 st2 A2 (by show x.deep + 1 + k = 9; omega) hg2 hy hs2 ha2
        rw [show plcV (plcAt x p pre.length) = [.int .i64 ((x.deep + 1 : Nat) : Int), txt y.1, txt x.hi, .bool x.fin] by unfold plcV plcAt; rw [hyj, if_pos hp0, if_neg (by omega), if_neg (by omega)]] at hih
        refine K.l_callX (Fx.cal rfl) rfl hih (K.pp [7, 7] rfl) rfl ?_ ?_
        · rintro v h' H' hle5 ⟨rfl, e, rfl, he⟩
          repeat (first | with_reducible refine K.a_then_panic ?_ | with_reducible refine K.a_block_panic ?_)
          refine K.AT.drop (K.AT.closed (Hs := wlkB B5 B7 B8 B9 B10 B11 B gv x (cP p (.slice ao p.cells.length ca)) fv caps pre.length) (List.Perm.refl _) (K.a_RXup hle5 ⟨⟨pre.length, rfl⟩, e, rfl, ?_⟩ (List.Perm.refl _)))
          rw [hq2, foldE, he]
        rintro v h5 H' hle5 ⟨⟨seen3, st3, m3, c3, A3⟩, hq3, hs3, ha3, rfl⟩
        simp only at hq3 hs3 ha3
        simp only [List.set_cons_zero, List.set_cons_succ, List.eraseIdx_cons_zero, List.eraseIdx_cons_succ, List.cons_append, List.nil_append]
        (repeat' (first | refine X.rq ?_ | (refine X.rc ?_ ?_ <;> intro hc <;> first | (exfalso; omega) | skip)))
        refine K.a_thenR (K.r_region rfl (fun _ _ x => x) ?_)
        (repeat' (first | refine X.rq ?_ | (refine X.rc ?_ ?_ <;> intro hc <;> first | (exfalso; omega) | skip)))
        refine X.sto ?_
        simp only [List.set_cons_zero, List.set_cons_succ, List.eraseIdx_cons_zero, List.eraseIdx_cons_succ, List.cons_append, List.nil_append]
        (repeat' (first | refine X.rq ?_ | (refine X.rc ?_ ?_ <;> intro hc <;> first | (exfalso; omega) | skip)))
        refine K.AT.sel [2] rfl ?_
        refine K.AT.closed (Hs := wlkA B5 B7 B8 B9 B10 B11 B gv x (cP p (.slice ao p.cells.length ca)) fv caps (pre.length + 1) ⟨seen3, st3, m3, c3, A3⟩) (K.pp [2, 2, 2, 2, 2, 2, 0, 0] rfl) (K.a_RX hle5 ⟨⟨seen3, st3, m3, c3, A3⟩, by rw [List.length_append]; rfl, hs3, ha3, ?_⟩ (List.Perm.refl _))
        rw [hq2, foldE, hq3, List.length_append]
        rfl
    · rintro D h3 A' hle ⟨⟨seen2, st2, m2, c2, A2⟩, rfl, hs2, ha2, hq2⟩
      simp only at hs2 ha2 hq2
      rw [List.drop_of_length_le (by rw [kplc_len]; exact Nat.le_refl _)] at hq2
      refine K.AT.perm (K.pp [2] rfl) (K.AT.open ?_)
      refine K.a_block ?_
      refine K.AT.sel [0, 0, 0, 0, 0, 0, 3] rfl ?_
      refine K.AT.perm (K.pp [2, 0, 0] rfl) (K.AT.marks1 ?_)
      refine K.doneMX (Ds := [D]) (.inr rfl) rfl (List.Perm.refl _) (vs := []) .nil (hle1.trans hle) (D := []) (H' := [_, _]) rfl ⟨⟨seen2, st2, m2, c2, A2⟩, hq2, hs2, ha2, rfl⟩
    · rintro D c' pre h3 A' hle hpref hf
      exact hf.elim
    · rintro D v pre h3 A' hle hpref ⟨⟨j, rfl⟩, e, rfl, he⟩
      repeat (first | with_reducible refine K.a_then_panic ?_ | with_reducible refine K.a_block_panic ?_)
      refine K.AT.marks1 (K.upMX (Ds := [D]) rfl (List.Perm.refl _) (hle1.trans hle) (D := [_, _]) (H' := []) rfl ⟨rfl, e, rfl, he⟩)
end Go.Proofs.Ytahdbncfegedjaa.Nd
