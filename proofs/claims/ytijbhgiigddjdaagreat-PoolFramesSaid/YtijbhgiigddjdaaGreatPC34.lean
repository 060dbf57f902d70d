/-
  Texts joined: Hn KWr. Conditions: each theorem's own.
-/
import Derived.Test.YtijbhgiigddjdaaGreatPC33
import Derived.Test.YtijbhgiigddjdaaGreatPC10
import Derived.Test.YtijbhgiigddjdaaGreatPC1
set_option linter.unusedVariables false
set_option linter.unusedSimpArgs false
set_option maxRecDepth 10000
set_option maxHeartbeats 16000000
section
namespace Go.Proofs.YtijbhgiigddjdaaGreat.Rc
open Go.K Pg Cc Rb

theorem cu_pos {x : Nat} (hx : x < 18446744073709551616) : 1 ≤ (cu x).length := by
 have h := front_cu x hx []
 exact (front_le h).1
theorem flat_pos {α : Type} (f : α → List UInt8) : ∀ (l : List α), (∀ x ∈ l, 1 ≤ (f x).length) → l.length ≤ (l.flatMap f).length
 | [], _ => Nat.le_refl _
 | x :: l, h => by
  have h1 := flat_pos f l fun y hy => h y (List.mem_cons_of_mem _ hy)
  have h2 := h x List.mem_cons_self
  rw [List.flatMap_cons, List.length_append, List.length_cons]; omega
theorem cellN_pos {x : PCell} (h : okCell x) : 1 ≤ (cellN x).length := by
 have hd : x.data.length ≤ 180 := by
  cases hu : x.used with
  | true => exact (h.1 hu).2
  | false => have := (h.2 hu).2; omega
 have := cu_pos (x := x.data.length) (by omega)
 unfold cellN
 rw [List.length_append]; omega
def Rows (h : Base) (es : List (List Value)) (l : List PCell) : Prop := es.length = l.length ∧ ∀ (j : Nat) c x, es[j]? = some c → l[j]? = some x → CellC h c x
theorem Rows.push {h : Base} {es : List (List Value)} {l : List PCell} (hr : Rows h es l) {c : List Value} {x : PCell} (hc : CellC h c x) : Rows h (es ++ [c]) (l ++ [x]) := by
 refine ⟨by rw [List.length_append, List.length_append, hr.1]; rfl, fun j c' x' h1 h2 => ?_⟩
 by_cases hj : j < es.length
 ·rw [List.getElem?_append_left hj] at h1
  rw [List.getElem?_append_left (by rw [← hr.1]; exact hj)] at h2
  exact hr.2 j c' x' h1 h2
 ·rw [List.getElem?_append_right (by omega)] at h1
  rw [List.getElem?_append_right (by rw [← hr.1]; omega)] at h2
  have h0 : j - es.length = 0 := by
   have := (List.getElem?_eq_some_iff.1 h1).1
   simp only [List.length_singleton] at this
   omega
  rw [h0] at h1
  rw [← hr.1, h0] at h2
  cases h1; cases h2
  exact hc
theorem Rows.three {h : Base} {es : List (List Value)} {l : List PCell} (hr : Rows h es l) : ∀ e ∈ es, e.length = 3 := fun e he => by
 obtain ⟨i, hi, rfl⟩ := List.mem_iff_getElem.1 he
 obtain ⟨_, _, _, _, hc, _⟩ := hr.2 i es[i] (l[i]'(by rw [← hr.1]; exact hi)) (List.getElem?_eq_getElem hi) (List.getElem?_eq_getElem (by rw [← hr.1]; exact hi))
 rw [hc]; rfl
def CellF (h0 h : Base) (c : List Value) (x : PCell) : Prop := CellC h c x ∧ ∀ v, c[2]? = some v → Fsh h0 h 1 v
theorem CellF.le {h0 h0' h h' : Base} (h1 : h0'.le h0) (h2 : h.le h') {c : List Value} {x : PCell} (hc : CellF h0 h c x) : CellF h0' h' c x := ⟨hc.1.le h2, fun v hv => (hc.2 v hv).le h1 h2⟩
def RowsF (h0 h : Base) (es : List (List Value)) (l : List PCell) : Prop := es.length = l.length ∧ ∀ (j : Nat) c x, es[j]? = some c → l[j]? = some x → CellF h0 h c x
theorem RowsF.c {h0 h : Base} {es : List (List Value)} {l : List PCell} (hr : RowsF h0 h es l) : Rows h es l := ⟨hr.1, fun j c x a b => (hr.2 j c x a b).1⟩
theorem RowsF.le {h0 h h' : Base} (hle : h.le h') {es : List (List Value)} {l : List PCell} (hr : RowsF h0 h es l) : RowsF h0 h' es l := ⟨hr.1, fun j c x a b => (hr.2 j c x a b).le (K.Base.le.refl _) hle⟩
theorem RowsF.push {h0 h : Base} {es : List (List Value)} {l : List PCell} (hr : RowsF h0 h es l) {c : List Value} {x : PCell} (hc : CellF h0 h c x) : RowsF h0 h (es ++ [c]) (l ++ [x]) := by
 refine ⟨by rw [List.length_append, List.length_append, hr.1]; rfl, fun j c' x' h1 h2 => ?_⟩
 by_cases hj : j < es.length
 ·rw [List.getElem?_append_left hj] at h1
  rw [List.getElem?_append_left (by rw [← hr.1]; exact hj)] at h2
  exact hr.2 j c' x' h1 h2
 ·rw [List.getElem?_append_right (by omega)] at h1
  rw [List.getElem?_append_right (by rw [← hr.1]; omega)] at h2
  have h0 : j - es.length = 0 := by
   have := (List.getElem?_eq_some_iff.1 h1).1
   simp only [List.length_singleton] at this
   omega
  rw [h0] at h1
  rw [← hr.1, h0] at h2
  cases h1; cases h2
  exact hc
theorem RowsF.three {h0 h : Base} {es : List (List Value)} {l : List PCell} (hr : RowsF h0 h es l) : ∀ e ∈ es, e.length = 3 := hr.c.three
def PagF (h0 h : Base) (cs : List Value) (p : Pag) : Prop := wfP p ∧ ∃ cv es, cs = cP p cv ∧ SL h 3 cv es ∧ es.length = p.cells.length ∧ Fsh h0 h 3 cv ∧ ∀ (j : Nat) c x, es[j]? = some c → p.cells[j]? = some x → CellF h0 h c x
theorem PagF.c {h0 h : Base} {cs : List Value} {p : Pag} (hp : PagF h0 h cs p) : PagC h cs p := by
 obtain ⟨h1, cv, es, h2, h3, h4, _, h6⟩ := hp
 exact ⟨h1, cv, h2, es, h3, h4, fun j c x a b => (h6 j c x a b).1⟩
theorem PagF.le {h0 h0' h h' : Base} {cs : List Value} {p : Pag} (hp : PagF h0 h cs p) (l1 : h0'.le h0) (l2 : h.le h') : PagF h0' h' cs p := by
 obtain ⟨h1, cv, es, h2, h3, h4, h5, h6⟩ := hp
 exact ⟨h1, cv, es, h2, h3.le l2, h4, h5.le l1 l2, fun j c x a b => (h6 j c x a b).le l1 l2⟩
theorem drop_at {α : Type} {l : List α} {j : Nat} {n : Nat} (h : j + (n + 1) = l.length) : ∃ x, l[j]? = some x ∧ l.drop j = x :: l.drop (j + 1) ∧ l.take (j + 1) = l.take j ++ [x] :=
 ⟨l[j]'(by omega), List.getElem?_eq_getElem (by omega), List.drop_eq_getElem_cons (by omega), List.take_succ_eq_append_getElem (by omega)⟩
structure ImS where
 b : Base
 q : Bool × Value × Bool
 ok : Bool
 rem : List UInt8
 c : Bool
 es : List (List Value)
 l : List PCell
 a : Option Nat
 cap : Nat
 n : Nat
structure CeS where
 b : Base
 q : Bool × Value × Bool
 ok : Bool
 rem : List UInt8
 c : Bool
 x : PCell
 ao : Option Addr
 ca : Nat
def FwCell (ok : Bool) (rem : List UInt8) (c : Bool) (x : PCell) (ok' : Bool) (rem' : List UInt8) (c' : Bool) : Prop :=
 rem'.length ≤ rem.length ∧ ∀ z rest, okCell z ∧ z.killer < 4294967296 → ok = true → rem = cellN z ++ rest → x = z ∧ ok' = true ∧ rem' = rest ∧ c' = c
def FwPag (ok : Bool) (rem : List UInt8) (c : Bool) (x : Pag) (ok' : Bool) (rem' : List UInt8) (c' : Bool) : Prop :=
 rem'.length ≤ rem.length ∧ ∀ (y : Pag) rest, (mayQ y = true ∧ y.lsn = 0 ∧ y.next < 4294967296 ∧ ∀ z ∈ y.cells, z.killer < 4294967296) → ok = true → rem = pagN y ++ rest → x = y ∧ ok' = true ∧ rem' = rest ∧ c' = c
theorem N_image (h : Base) (p : Nat) (q : Bool × Value × Bool) (ok : Bool) (rem : List UInt8) (B : Nat) (c : Bool) (hr : RdQ h q ok rem) (hl20 : rem.length ≤ 20000) :
  Tr Tryz.prog 152 [rp p, rp B] h [rA (rq p q), blk B 4 [.bool c]] (fun u h' H' => ∃ cs x q' ok' rem' c', u = .agg cs.toArray ∧ PagF h h' cs x ∧ x.lsn = 0 ∧ RdQ h' q' ok' rem' ∧ H' = [rA (rq p q'), blk B 4 [.bool c']] ∧ FwPag ok rem c x ok' rem' c') := by
 have hl : rem.length ≤ big := by unfold big; omega
 refine K.en Tryz.func152 fun F => ?_
 simp only [Go.K.cna]
 (repeat' first | refine X.rq ?_ | refine X.rc ?_ ?_ <;> intro hc <;> try omega)
 refine K.l_alloc (Fx.zr rfl) rfl rfl (fun B4 => ?_)
 (repeat' first | refine X.rq ?_ | refine X.rc ?_ ?_ <;> intro hc <;> try omega)
 refine K.l_call (Fx.cal rfl) rfl (N_U8 h p q ok rem hr hl) (K.pp [1] rfl) rfl ?_
 rintro u h' H' - ⟨e, k, q1, ok1, rem1, rfl, hk, hr1, rfl, f1⟩
 obtain rfl := e.symm
 simp only [Go.K.nmz]
 have g1 : rem1.length ≤ big := Nat.le_trans f1.1 hl
 (repeat' first | refine X.rq ?_ | refine X.rc ?_ ?_ <;> intro hc <;> try omega)
 refine K.l_alloc (Fx.zr rfl) rfl rfl (fun B5 => ?_)
 refine X.stw ?_
 simp only [Go.K.nmz]
 (repeat' first | refine X.rq ?_ | refine X.rc ?_ ?_ <;> intro hc <;> try omega)
 refine K.l_call (Fx.cal rfl) rfl (N_narrow h p q1 ok1 rem1 B c hr1 g1) (K.pp [1, 2] rfl) rfl ?_
 rintro u h' H' - ⟨e, nx, q2, ok2, rem2, c2, rfl, hnx, hr2, rfl, f2⟩
 obtain rfl := e.symm
 simp only [Go.K.nmz]
 have g2 : rem2.length ≤ big := Nat.le_trans f2.1 g1
 (repeat' first | refine X.rq ?_ | refine X.rc ?_ ?_ <;> intro hc <;> try omega)
 refine X.sto ?_
 simp only [Go.K.nmz]
 (repeat' first | refine X.rq ?_ | refine X.rc ?_ ?_ <;> intro hc <;> try omega)
 refine K.l_call (Fx.cal rfl) rfl (N_count h p q2 ok2 rem2 hr2 g2) (K.pp [0] rfl) rfl ?_
 rintro u h' H' - ⟨e, N, q3, ok3, rem3, rfl, hr3, rfl, f3⟩
 obtain rfl := e.symm
 simp only [Go.K.nmz]
 have g3 : rem3.length ≤ big := Nat.le_trans f3.1.1 g2
 have hN : N ≤ 20000 := Nat.le_trans f3.1.2 (Nat.le_trans f3.1.1 (Nat.le_trans f2.1 (Nat.le_trans f1.1 hl20)))
 (repeat' first | refine X.rk ?_ | refine X.rd ?_ ?_ <;> intro hc <;> try omega)
 refine K.WC.nilBuf 120 3 ?_
 have fw0 : ∀ (y : Pag) rest, (mayQ y = true ∧ y.lsn = 0 ∧ y.next < 4294967296 ∧ ∀ z ∈ y.cells, z.killer < 4294967296) ∧ ok = true ∧ rem = pagN y ++ rest → ((k : Int) = y.kind ∧ nx = y.next ∧ c2 = c) ∧ ok3 = true ∧ N = y.cells.length ∧ rem3 = cellsN y.cells ++ rest := fun y rest hy => by
  obtain ⟨⟨hm, hl0, hnx, hkl⟩, hok, he⟩ := hy
  obtain ⟨⟨hk1, hk3⟩, h60, _⟩ := (mayQ_iff y).1 hm
  have hoc := may_ok hm
  unfold pagN at he
  simp only [List.append_assoc] at he
  obtain ⟨e1, e2, e3⟩ := f1.2 y.kind.toNat _ (by show y.kind.toNat < 256; omega) hok he
  obtain ⟨d1, d2, d3, d4⟩ := f2.2 y.next _ hnx e2 e3
  have hlen := flat_pos cellN y.cells fun x hx => cellN_pos (hoc x hx)
  obtain ⟨b1, b2, b3⟩ := f3.2 y.cells.length _ (by omega) (by rw [List.length_append]; unfold cellsN; omega) d2 d3
  exact ⟨⟨by omega, d1, d4⟩, b2, b1, b3⟩
 refine K.c_join (β := ImS) (fun q => [(0, rp p), (1, rp B), (4, rp B4), (5, rp B5)]) (fun q => q.b) (fun q => bufA 120 3 q.a q.es.length q.cap q.es.flatten :: rA (rq p q.q) :: blk B 4 [.bool q.c] :: blk B5 41 (cP ⟨(k : Nat), 0, nx, []⟩ (bufV q.a q.es.length q.cap)) :: blk B4 41 (cP zPd (.slice none 0 0)) :: F)
  (fun q => h.le q.b ∧ RdQ q.b q.q q.ok q.rem ∧ q.rem.length ≤ rem3.length ∧ RowsF h q.b q.es q.l ∧ q.l.length + q.n ≤ N ∧ ∀ (y : Pag) rest, (mayQ y = true ∧ y.lsn = 0 ∧ y.next < 4294967296 ∧ ∀ z ∈ y.cells, z.killer < 4294967296) ∧ ok = true ∧ rem = pagN y ++ rest → q.ok = true ∧ q.c = c ∧ q.l = y.cells ∧ q.rem = rest) (fun KJ hJ => ?_) ?_
 ·(repeat' first | refine X.rq ?_ | refine X.rc ?_ ?_ <;> intro hc <;> try omega)
  refine K.c_loop (σ := ImS) (fun q => [(0, rp p), (1, rp B), (4, rp B4), (5, rp B5), (6, .int .i64 q.n)]) (fun q => q.b) (fun q => bufA 120 3 q.a q.es.length q.cap q.es.flatten :: rA (rq p q.q) :: blk B 4 [.bool q.c] :: blk B5 41 (cP ⟨(k : Nat), 0, nx, []⟩ (bufV q.a q.es.length q.cap)) :: blk B4 41 (cP zPd (.slice none 0 0)) :: F)
   (fun q => h.le q.b ∧ RdQ q.b q.q q.ok q.rem ∧ q.rem.length ≤ rem3.length ∧ RowsF h q.b q.es q.l ∧ q.l.length + q.n ≤ N ∧ ∀ (y : Pag) rest, (mayQ y = true ∧ y.lsn = 0 ∧ y.next < 4294967296 ∧ ∀ z ∈ y.cells, z.killer < 4294967296) ∧ ok = true ∧ rem = pagN y ++ rest → q.ok = true ∧ q.c = c ∧ q.l = y.cells.take q.l.length ∧ q.l.length + q.n = y.cells.length ∧ q.rem = cellsN (y.cells.drop q.l.length) ++ rest) (fun q => q.n)
   ⟨h, q3, ok3, rem3, c2, [], [], none, 0, N⟩ ⟨K.Base.le.refl _, hr3, Nat.le_refl _, ⟨rfl, fun j c x h1 => by simp at h1⟩, by simp, fun y rest hy => by
    obtain ⟨⟨_, _, e3⟩, e4, e5, e6⟩ := fw0 y rest hy
    exact ⟨e4, e3, by simp, by simp [e5], by simpa using e6⟩⟩ (by repeat (first | exact K.Sub.nil _ | refine K.Sub.cons rfl ?_)) rfl rfl ?_
  rintro ⟨hb, q4, ok4, rem4, c4, es, l, a, cap, n⟩ ⟨hle, hr4, hl4, hrow, hn, fw⟩ KL hKL
  dsimp only at hle hr4 hl4 hrow hn fw ⊢
  have g4 : rem4.length ≤ big := Nat.le_trans hl4 g3
  by_cases hn0 : n = 0
  ·subst hn0
   (repeat' first | refine X.rq ?_ | refine X.rc ?_ ?_ <;> intro hc <;> try omega)
   skip
   refine K.a_join hJ ⟨hb, q4, ok4, rem4, c4, es, l, a, cap, 0⟩ ⟨hle, hr4, hl4, hrow, hn, fun y rest hy => ?_⟩ (by repeat (first | exact K.Sub.nil _ | refine K.Sub.cons rfl ?_)) rfl rfl
   obtain ⟨e1, e2, e3, e4, e5⟩ := fw y rest hy
   dsimp only
   rw [Nat.add_zero] at e4
   rw [e4, List.take_length] at e3
   rw [e4, List.drop_length] at e5
   exact ⟨e1, e2, e3, e5⟩
  ·obtain ⟨m, rfl⟩ : ∃ m, n = m + 1 := ⟨n - 1, by omega⟩
   (repeat' first | refine X.rq ?_ | refine X.rc ?_ ?_ <;> intro hc <;> try omega)
   refine K.l_callV (Fx.cal rfl) rfl (N_Err hb p q4 ok4 rem4 hr4) (K.pp [1] rfl) rfl rfl ?_
   simp only [Go.K.nmz]
   cases ok4 with
   | false =>
    (repeat' first | refine X.rq ?_ | refine X.rc ?_ ?_ <;> intro hc <;> try omega)
    skip
    refine K.AT.perm (K.pp [1] rfl) ?_
    simp only [Go.K.nmz]
    refine K.a_join hJ ⟨hb, q4, false, rem4, c4, es, l, a, cap, m + 1⟩ ⟨hle, hr4, hl4, hrow, hn, fun y rest hy => ?_⟩ (by repeat (first | exact K.Sub.nil _ | refine K.Sub.cons rfl ?_)) rfl rfl
    exact absurd (fw y rest hy).1 (by decide)
   | true =>
    (repeat' first | refine X.rk ?_ | refine X.rd ?_ ?_ <;> intro hc <;> try omega)
    refine X.w ?_
    (repeat' first | refine X.rk ?_ | refine X.rd ?_ ?_ <;> intro hc <;> try omega)
    refine X.w ?_
    (repeat' first | refine X.rs ?_ | refine X.rd ?_ ?_ <;> intro hc <;> try omega)
    refine K.l_alloc (Fx.zr rfl) rfl rfl (fun B7 => ?_)
    (repeat' first | refine X.rs ?_ | refine X.rd ?_ ?_ <;> intro hc <;> try omega)
    apply K.c_seq
    refine K.c_join (β := CeS) (fun s => [(0, rp p), (1, rp B), (4, rp B4), (5, rp B5), (6, .int .i64 (m + 1 : Nat)), (7, rp B7)]) (fun s => s.b)
     (fun s => blk B7 120 [.bool s.x.used, .int .u32 s.x.killer, .slice s.ao s.x.data.length s.ca] :: rA (rq p s.q) :: bufA 120 3 a es.length cap es.flatten :: blk B 4 [.bool s.c] :: blk B5 41 (cP ⟨(k : Nat), 0, nx, []⟩ (bufV a es.length cap)) :: blk B4 41 (cP zPd (.slice none 0 0)) :: F)
     (fun s => hb.le s.b ∧ RdQ s.b s.q s.ok s.rem ∧ CellF h s.b [.bool s.x.used, .int .u32 s.x.killer, .slice s.ao s.x.data.length s.ca] s.x ∧ FwCell true rem4 c4 s.x s.ok s.rem s.c) (fun KC hC => ?_) ?_
    ·(repeat' first | refine X.rq ?_ | refine X.rc ?_ ?_ <;> intro hc <;> try omega)
     refine K.l_call (Fx.cal rfl) rfl (N_Uint hb p q4 true rem4 hr4 g4) (K.pp [1] rfl) rfl ?_
     rintro u h' H' - ⟨e, x, q5, ok5, rem5, rfl, hx, hr5, rfl, f5⟩
     obtain rfl := e.symm
     simp only [Go.K.nmz]
     have g5 : rem5.length ≤ big := Nat.le_trans f5.1 g4
     by_cases hx0 : x = 0
     ·subst hx0
      (repeat' first | refine X.rq ?_ | refine X.rc ?_ ?_ <;> intro hc <;> try omega)
      refine K.AT.perm (K.pp [1] rfl) ?_
      simp only [Go.K.nmz]
      refine K.a_join hC ⟨hb, q5, ok5, rem5, c4, ⟨false, 0, []⟩, none, 0⟩ ⟨K.Base.le.refl _, hr5, ⟨⟨show (0 : Nat) < 4294967296 by decide, Nat.zero_le _, none, 0, rfl, BV.nil⟩, fun v e => by cases e; exact Fsh.nil⟩, f5.1, fun z rest hz hok he => ?_⟩ (by repeat (first | exact K.Sub.nil _ | refine K.Sub.cons rfl ?_)) rfl rfl
      obtain ⟨⟨hz1, hz2⟩, hz3⟩ := hz
      have hzl : z.data.length ≤ 180 := by
       cases hu : z.used with
       | true => exact (hz1 hu).2
       | false => have := (hz2 hu).2; omega
      unfold cellN at he
      rw [List.append_assoc] at he
      obtain ⟨e1, e2, e3⟩ := f5.2 z.data.length _ (show _ < 18446744073709551616 by omega) hok he
      obtain ⟨zu, zk, zd⟩ := z
      dsimp only at *
      cases zu with
      | true => have := (hz1 rfl).1; omega
      | false =>
       obtain ⟨h1, h2⟩ := hz2 rfl
       subst h1
       rw [List.eq_nil_of_length_eq_zero h2]
       exact ⟨rfl, e2, by simpa using e3, rfl⟩
     ·(repeat' first | refine X.rq ?_ | refine X.rc ?_ ?_ <;> intro hc <;> try omega)
      refine K.l_call (Fx.cal rfl) rfl (N_narrow hb p q5 ok5 rem5 B c4 hr5 g5) (K.pp [0, 2] rfl) rfl ?_
      rintro u h' H' - ⟨e, kl, q6, ok6, rem6, c6, rfl, hkl, hr6, rfl, f6⟩
      obtain rfl := e.symm
      simp only [Go.K.nmz]
      have g6 : rem6.length ≤ big := Nat.le_trans f6.1 g5
      (repeat' first | refine X.rq ?_ | refine X.rc ?_ ?_ <;> intro hc <;> try omega)
      refine X.sto ?_
      simp only [Go.K.nmz]
      (repeat' first | refine X.rq ?_ | refine X.rc ?_ ?_ <;> intro hc <;> try omega)
      refine X.sto ?_
      simp only [Go.K.nmz]
      (repeat' first | refine X.rq ?_ | refine X.rc ?_ ?_ <;> intro hc <;> try omega)
      have hmin : min (x : Int) 16384 = ((min x 16384 : Nat) : Int) := by
       rcases Nat.le_total x 16384 with h | h
       ·rw [Nat.min_eq_left h]; exact Int.min_eq_left (show (x : Int) ≤ 16384 by omega)
       ·rw [Nat.min_eq_right h]; exact Int.min_eq_right (show (16384 : Int) ≤ x by omega)
      rw [hmin]
      have hm : min x 16384 ≤ 16384 := Nat.min_le_right _ _
      have hmx : x ≤ 16384 → min x 16384 = x := Nat.min_eq_left
      generalize min x 16384 = mm at hm hmx ⊢
      (repeat' first | refine X.rq ?_ | refine X.rc ?_ ?_ <;> intro hc <;> try omega)
      refine K.l_call (Fx.cal rfl) rfl (N_Raw hb p q6 ok6 rem6 mm hr6 g6 (by omega)) (K.pp [0] rfl) rfl ?_
      rintro u h' H' - ⟨e, d, a9, cap9, q7, ok7, rem7, rfl, hd, hr7, rfl, f7⟩
      obtain rfl := e.symm
      simp only [Go.K.nmz]
      refine K.WL.freezeBufF (fun hb2 hle2 hbv hfs => ?_)
      obtain ⟨ao9, ca9, e9⟩ := hbv.len
      rw [e9] at hbv hfs ⊢
      (repeat' first | refine X.rq ?_ | refine X.rc ?_ ?_ <;> intro hc <;> try omega)
      refine X.sto ?_
      simp only [Go.K.nmz]
      (repeat' first | refine X.rq ?_ | refine X.rc ?_ ?_ <;> intro hc <;> try omega)
      refine K.AT.perm (K.pp [2, 0, 1] rfl) ?_
      simp only [Go.K.nmz]
      refine K.a_join hC ⟨hb2, q7, ok7, rem7, c6, ⟨true, kl, d⟩, ao9, ca9⟩ ⟨hle2, hr7.le hle2, ⟨⟨hkl, show d.length ≤ _ by omega, ao9, ca9, rfl, hbv⟩, fun v e => by cases e; exact hfs.le hle (K.Base.le.refl _)⟩, Nat.le_trans f7.1 (Nat.le_trans f6.1 f5.1), fun z rest hz hok he => ?_⟩ (by repeat (first | exact K.Sub.nil _ | refine K.Sub.cons rfl ?_)) rfl rfl
      obtain ⟨⟨hz1, hz2⟩, hz3⟩ := hz
      have hzl : z.data.length ≤ 180 := by
       cases hu : z.used with
       | true => exact (hz1 hu).2
       | false => have := (hz2 hu).2; omega
      unfold cellN at he
      rw [List.append_assoc] at he
      obtain ⟨e1, e2, e3⟩ := f5.2 z.data.length _ (show _ < 18446744073709551616 by omega) hok he
      obtain ⟨zu, zk, zd⟩ := z
      dsimp only at *
      cases zu with
      | false => have := (hz2 rfl).2; omega
      | true =>
       rw [if_pos rfl, List.append_assoc] at e3
       obtain ⟨b1, b2, b3, b4⟩ := f6.2 zk _ hz3 e2 e3
       obtain ⟨d1, d2, d3⟩ := f7.2 zd _ (show zd.length = mm by rw [hmx (by omega)]; exact e1.symm) b2 b3
       subst b1 d1
       exact ⟨rfl, d2, d3, b4⟩
    ·rintro ⟨hb2, q5, ok5, rem5, c5, x, ao5, ca5⟩ ⟨hle2, hr5, hcc, fwc⟩
     dsimp only at hle2 hr5 hcc fwc ⊢
     have hrow2 := (hrow.le hle2).push hcc
     have hel := hrow.1
     (repeat' first | refine X.rq ?_ | refine X.rc ?_ ?_ <;> intro hc <;> try omega)
     refine K.l_buildSlice (Fx.und rfl) (Fx.sz rfl) rfl (Fx.zr rfl) rfl rfl rfl (cs := [.bool x.used, .int .u32 x.killer, .slice ao5 x.data.length ca5]) rfl rfl (fun B10 => ?_)
     refine K.l_append_at 3 rfl (Fx.und rfl) (Fx.und rfl) rfl (Fx.sz rfl) (Fx.zr rfl) rfl (Fx.byt rfl) rfl rfl (K.src_cells (K.cels_own (pre := []) (cs := [.bool x.used, .int .u32 x.killer, .slice ao5 x.data.length ca5]) (post := []) 0 rfl rfl) rfl (List.all_eq_true.1 (show ones [.bool x.used, .int .u32 x.killer, .slice ao5 x.data.length ca5] = true from rfl))) (by omega) (by omega) rfl (fun a6 cap6 => ?_)
     simp only [Go.K.nmz]
     (repeat' first | refine X.rq ?_ | refine X.rc ?_ ?_ <;> intro hc <;> try omega)
     refine X.sto ?_
     simp only [Go.K.nmz]
     (repeat' first | refine X.rq ?_ | refine X.rc ?_ ?_ <;> intro hc <;> try omega)
     refine K.AT.sel [0, 0] rfl ?_
     refine K.AT.perm (K.pp [1] rfl) ?_
     simp only [Go.K.nmz]
     rw [show (((m + 1 : Nat) : Int) - 1) = (m : Int) by omega]
     refine K.a_round hKL ⟨hb2, q5, ok5, rem5, c5, es ++ [[.bool x.used, .int .u32 x.killer, .slice ao5 x.data.length ca5]], l ++ [x], a6, cap6, m⟩ ⟨hle.trans hle2, hr5, Nat.le_trans fwc.1 hl4, hrow2, by dsimp only; rw [List.length_append, List.length_singleton]; omega, fun y rest hy => ?_⟩ (by repeat (first | exact K.Sub.nil _ | refine K.Sub.cons rfl ?_)) rfl ?_ (by dsimp only; omega)
     ·obtain ⟨e1, e2, e3, e4, e5⟩ := fw y rest hy
      dsimp only
      obtain ⟨z, hz1, hz2, hz3⟩ := drop_at e4
      rw [hz2] at e5
      have hzm := List.mem_of_getElem? hz1
      obtain ⟨d1, d2, d3, d4⟩ := fwc.2 z (cellsN (y.cells.drop (l.length + 1)) ++ rest) ⟨may_ok hy.1.1 z hzm, hy.1.2.2.2 z hzm⟩ rfl (by rw [e5]; unfold cellsN; rw [List.flatMap_cons, List.append_assoc])
      rw [List.length_append, List.length_singleton]
      refine ⟨d2, d4.trans e2, ?_, by omega, d3⟩
      rw [hz3, ← e3, d1]
     ·dsimp only
      rw [List.length_append, List.length_singleton, List.flatten_append]
      simp only [List.flatten_cons, List.flatten_nil, List.append_nil]
      rfl
 ·rintro ⟨hb, q4, ok4, rem4, c4, es, l, a, cap, n⟩ ⟨hle, hr4, hl4, hrow, hn, fw⟩
  dsimp only at hle hr4 hl4 hrow hn fw ⊢
  refine K.AT.freezeRowF hrow.three (fun hb2 hle2 hsl hcap hfs => ?_)
  have hel := hrow.1
  have hle3 := hle.trans hle2
  have hr5 := hr4.le hle2
  have hrow2 := hrow.le hle2
  rw [hel] at hsl hfs ⊢
  obtain ⟨ao9, ca9, e9⟩ := hsl.len
  rw [hel] at e9
  rw [e9] at hsl hfs ⊢
  have hfs := hfs.le hle (K.Base.le.refl _)
  (repeat' first | refine X.rq ?_ | refine X.rc ?_ ?_ <;> intro hc <;> try omega)
  refine X.stw ?_
  simp only [Go.K.nmz]
  (repeat' first | refine X.rq ?_ | refine X.rc ?_ ?_ <;> intro hc <;> try omega)
  refine K.AT.perm (K.pp [3, 2] rfl) ?_
  simp only [Go.K.nmz]
  refine K.dc (.cell rfl (Fx.agg rfl) (Fx.sz rfl) (by first | exact K.cels_own (pre := []) (post := []) 0 rfl rfl | exact K.cels_own (pre := []) (post := []) 1 rfl rfl | exact K.cels_own (pre := []) (post := []) 2 rfl rfl | exact K.cels_own (pre := []) (post := []) 3 rfl rfl | exact K.cels_own (pre := []) (post := []) 4 rfl rfl | exact K.cels_own (pre := []) (post := []) 5 rfl rfl) .nil) (by first | exact K.Base.le.refl _ | assumption) (vs := [.agg (cP ⟨(k : Nat), 0, nx, l⟩ (.slice ao9 l.length ca9)).toArray]) (D := [_, _]) (H' := [rA (rq p q4), blk B 4 [.bool c4]]) rfl ⟨_, ⟨(k : Nat), 0, nx, l⟩, q4, ok4, rem4, c4, rfl, ⟨⟨?_, show (0 : Nat) < 18446744073709551616 by decide, hnx, show l.length ≤ _ by omega⟩, _, es, rfl, hsl, hel, hfs, hrow2.2⟩, rfl, hr5, rfl, Nat.le_trans hl4 (Nat.le_trans f3.1.1 (Nat.le_trans f2.1 f1.1)), fun y rest hv hok he => ?_⟩
  ·unfold in64
   show -9223372036854775808 ≤ ((k : Nat) : Int) ∧ ((k : Nat) : Int) ≤ 9223372036854775807
   omega
  ·obtain ⟨e1, e2, e3, e4⟩ := fw y rest ⟨hv, hok, he⟩
   obtain ⟨⟨d1, d2, _⟩, _⟩ := fw0 y rest ⟨hv, hok, he⟩
   obtain ⟨_, hl0, _⟩ := hv
   refine ⟨?_, e1, e4, e2⟩
   obtain ⟨yk, yl, yn, yc⟩ := y
   dsimp only at *
   subst d1 d2 e3 hl0
   rfl
end Go.Proofs.YtijbhgiigddjdaaGreat.Rc
end

section
namespace Go.K
section
variable {P : Program} {n : NN} {Q : Exit → Act → World → Prop} {E : Env} {h : Base} {H K R : List Asrt} {ops : Array Oper} {rest : List Oper}
inductive ResD (P : Program) (E : Env) (h : Base) (H : List Asrt) : List ResultVar → List Value → Prop
 | nil : ResD P E h H [] []
 | tmp {t : Nat} {v : Value} {r : List ResultVar} {vs : List Value} (hl : lk E t = some v) (hr : ResD P E h H r vs) : ResD P E h H (.tmp t :: r) (v :: vs)
 | cell {t b : Nat} {ty : TypeId} {us : List Value} {r : List ResultVar} {vs : List Value} (hl : lk E t = some (.pointer (some ⟨b, 0, none⟩))) (hg : aggOf P ty = some true) (hs : szOf P ty = some us.length) (hc : Cels h H b 0 us) (hr : ResD P E h H r vs) : ResD P E h H (.cell t ty :: r) (.agg us.toArray :: vs)
 | one {t b : Nat} {ty : TypeId} {v : Value} {r : List ResultVar} {vs : List Value} (hl : lk E t = some (.pointer (some ⟨b, 0, none⟩))) (hg : aggOf P ty = some false) (hc : Cel h H b 0 v) (hr : ResD P E h H r vs) : ResD P E h H (.cell t ty :: r) (v :: vs)
theorem mapM_resD {a : Act} {w : World} (fa : Fr n E a) (hw : Sat h H w) (f : ResultVar → Sem Value) (hf : ∀ t, f (.tmp t) = pure (a.tmps.getD t undef)) (hf2 : ∀ t ty, f (.cell t ty) = (do loadVar ty (← asAddr (a.tmps.getD t undef)))) : ∀ (rs : List ResultVar) (vs : List Value), ResD P E h H rs vs →
  (rs.mapM f).run P w = .ok vs w
 | _, _, .nil => by simp
 | _, _, .tmp (t := t) (v := v) hl hr => by
  have := mapM_resD fa hw f hf hf2 _ _ hr
  have hg : a.tmps.getD t undef = v := by simp [Array.getD_eq_getD_getElem?, fa.get t v hl]
  simp only [List.mapM_cons, Sem.run_bind, hf, hg, Sem.run_pure, Result.andThen_ok, this]
 | _, _, .cell (t := t) (b := b) (ty := ty) (us := us) hl hg hs hc hr => by
  have := mapM_resD fa hw f hf hf2 _ _ hr
  have hgt : a.tmps.getD t undef = .pointer (some ⟨b, 0, none⟩) := by simp [Array.getD_eq_getD_getElem?, fa.get t _ hl]
  have hld : (loadCells ⟨b, 0, none⟩ us.length).run P w = .ok us.toArray w := run_loadCells_list w _ _ fun j u hj => by
   rw [add_none]; exact (hc.get j u hj).run w hw
  simp only [List.mapM_cons, Sem.run_bind, hf2, hgt, asAddr, Sem.run_pure, Result.andThen_ok, loadVar, run_isAgg hg, run_sizeOf hs, if_true, hld, this]
 | _, _, .one (t := t) (b := b) (ty := ty) (v := v) hl hg hc hr => by
  have := mapM_resD fa hw f hf hf2 _ _ hr
  have hgt : a.tmps.getD t undef = .pointer (some ⟨b, 0, none⟩) := by simp [Array.getD_eq_getD_getElem?, fa.get t _ hl]
  simp [List.mapM_cons, hf2, hgt, asAddr, loadVar, run_isAgg hg, hc.run w hw, this]
theorem run_resD {fn : Func} {a : Act} {w : World} {vs : List Value} (fa : Fr n E a) (hw : Sat h H w) (hr : ResD P E h H fn.results.toList vs) : (results fn a.tmps).run P w = .ok (packV vs) w := by
 unfold results
 rw [Array.mapM_eq_mapM_toList]
 simp only [Sem.run_bind, Sem.run_map]
 rw [mapM_resD (P := P) (w := w) fa hw _ (by intro t; rfl) (by intro t ty; rfl) _ vs hr]
 simp only [Result.andThen_ok, Sem.run_pure]
 match vs with
 | [] => rfl
 | [v] => rfl
 | v :: u :: r => rfl
theorem doneD {fn : Func} {e : Exit} {F H' D : List Asrt} {h0 : Base} {Post : Value → Base → List Asrt → Prop} {vs : List Value} (he : e = .ret ∨ e = .normal) (hr : ResD P E h H fn.results.toList vs)
  (hle : h0.le h) (hH : H = D ++ (H' ++ F)) (hP : Post (packV vs) h H') (hn : n.ds = [] := by rfl) : AT P n (post P fn fun v w' => ∃ h' H', h0.le h' ∧ Post v h' H' ∧ Ok h' (H' ++ F) w') e E h H :=
 ⟨fun a w fa ok => by
  have hk : ∃ h' H'', h0.le h' ∧ Post (packV vs) h' H'' ∧ Ok h' (H'' ++ F) w := ⟨h, H', hle, hP, (hH ▸ ok).drops⟩
  rcases he with rfl | rfl <;> exact ⟨fa.defers.trans hn, packV vs, run_resD fa ok.sat hr, _, rfl, hk⟩⟩

end
end Go.K
end
