/-
  Who waits for whom: the code's. Conditions: each theorem's own.
-/
import Derived.Test.YtcpdfajaggbjlaaDoorTp

namespace Go.Proofs.YtcpdfajaggbjlaaDoor.Lk
open Go Go.K Go.Proofs Go.Proofs.YtcpdfajaggbjlaaDoor
set_option linter.unusedVariables false
set_option linter.unusedSimpArgs false
set_option maxRecDepth 10000

def pairsQ (l : List PLock) (i : Nat) (x : PLock) : List PW := if x.held then [] else (reasonsQ l i x).map fun u => (x.txn, u)
def rawQ (l : List PLock) (j : Nat) : List PW := (List.range j).flatMap fun i => (l[i]?.map (pairsQ l i)).getD []
theorem rawQ_succ {l : List PLock} {j : Nat} {x : PLock} (hx : l[j]? = some x) : rawQ l (j + 1) = rawQ l j ++ pairsQ l j x := by
  unfold rawQ
  rw [List.range_succ, List.flatMap_append, List.flatMap_cons, List.flatMap_nil, List.append_nil, hx]
  rfl
theorem reasons_le (l : List PLock) (i : Nat) (q : PLock) : (reasonsQ l i q).length ≤ l.length := selQ_len _ l 0
theorem rawQ_len (l : List PLock) : ∀ j, j ≤ l.length → (rawQ l j).length ≤ j * l.length
  | 0, _ => by simp [rawQ]
  | j + 1, hj => by
    have h1 := rawQ_len l j (by omega)
    have h2 : l[j]? = some l[j] := List.getElem?_eq_getElem (by omega)
    rw [rawQ_succ h2, List.length_append, Nat.add_mul, Nat.one_mul]
    have h3 : (pairsQ l j l[j]).length ≤ l.length := by
      unfold pairsQ
      split
      · exact Nat.zero_le _
      · rw [List.length_map]; exact reasons_le ..
    omega
/-- A pair put into its place, once. -/
def insW (x : PW) : List PW → List PW
  | [] => [x]
  | y :: r => if x = y then y :: r else if ltW x y then x :: y :: r else y :: insW x r
theorem mem_ins (x : PW) : ∀ (l : List PW) (z : PW), z ∈ insW x l ↔ z = x ∨ z ∈ l
  | [], z => by simp [insW]
  | y :: r, z => by
    unfold insW
    split
    · rename_i h
      subst h
      exact ⟨.inr, fun e => e.elim (fun e => by rw [e]; exact List.mem_cons_self) id⟩
    · split
      · rw [List.mem_cons]
      · rw [List.mem_cons, mem_ins x r z, List.mem_cons]
        exact ⟨fun e => e.elim (fun e => .inr (.inl e)) fun e => e.elim .inl fun e => .inr (.inr e), fun e => e.elim (fun e => .inr (.inl e)) fun e => e.elim .inl fun e => .inr (.inr e)⟩
theorem ins_rise (x : PW) : ∀ (l : List PW), l.Pairwise ltW → (insW x l).Pairwise ltW
  | [], _ => List.pairwise_singleton _ _
  | y :: r, h => by
    unfold insW
    obtain ⟨h1, h2⟩ := List.pairwise_cons.1 h
    split
    · exact h
    · rename_i hne
      split
      · rename_i hlt
        refine List.pairwise_cons.2 ⟨fun z hz => ?_, h⟩
        rcases List.mem_cons.1 hz with rfl | hz
        · exact hlt
        · exact ltW_trans hlt (h1 z hz)
      · rename_i hlt
        refine List.pairwise_cons.2 ⟨fun z hz => ?_, ins_rise x r h2⟩
        rcases (mem_ins x r z).1 hz with rfl | hz
        · exact ltW_tot hlt hne
        · exact h1 z hz
def riseW (l : List PW) : List PW := l.foldl (fun p x => insW x p) []
theorem riseW_ok (l : List PW) : OnceW (riseW l) l := by
  have key : ∀ (l p q : List PW), OnceW p q → OnceW (l.foldl (fun p x => insW x p) p) (q ++ l) := by
    intro l
    induction l with
    | nil => intro p q h; rw [List.append_nil]; exact h
    | cons x l ih =>
      intro p q h
      have := ih (insW x p) (q ++ [x]) ⟨ins_rise x p h.rise, fun z => by
        rw [mem_ins, h.mem z, List.mem_append, List.mem_singleton]
        exact ⟨fun e => e.elim .inr .inl, fun e => e.elim .inr .inl⟩⟩
      rw [List.append_assoc] at this
      exact this
  exact key l [] [] ⟨.nil, fun x => Iff.rfl⟩
theorem rise_uniq : ∀ {p q : List PW}, p.Pairwise ltW → q.Pairwise ltW → (∀ x, x ∈ p ↔ x ∈ q) → p = q
  | [], [], _, _, _ => rfl
  | [], y :: q, _, _, h => by have := (h y).2 List.mem_cons_self; cases this
  | x :: p, [], _, _, h => by have := (h x).1 List.mem_cons_self; cases this
  | x :: p, y :: q, h1, h2, h => by
    obtain ⟨a1, a2⟩ := List.pairwise_cons.1 h1
    obtain ⟨b1, b2⟩ := List.pairwise_cons.1 h2
    have hxy : x = y := by
      rcases List.mem_cons.1 ((h x).1 List.mem_cons_self) with e | e
      · exact e
      · rcases List.mem_cons.1 ((h y).2 List.mem_cons_self) with e2 | e2
        · exact e2.symm
        · exact absurd (ltW_trans (a1 y e2) (b1 x e)) (ltW_irr x)
    subst hxy
    rw [rise_uniq a2 b2 fun z => by
      constructor
      · intro hz
        rcases List.mem_cons.1 ((h z).1 (List.mem_cons_of_mem _ hz)) with e | e
        · exact absurd (e ▸ a1 z hz) (ltW_irr _)
        · exact e
      · intro hz
        rcases List.mem_cons.1 ((h z).2 (List.mem_cons_of_mem _ hz)) with e | e
        · exact absurd (e ▸ b1 z hz) (ltW_irr _)
        · exact e]
theorem OnceW.uniq {p q r : List PW} (h1 : OnceW p r) (h2 : OnceW q r) : p = q := rise_uniq h1.rise h2.rise fun x => (h1.mem x).trans (h2.mem x).symm
/-- Who waits for whom: rising pairs, each once. -/
def waitsQ (l : List PLock) : List PW := riseW (rawQ l l.length)
theorem waits_ok (l : List PLock) : OnceW (waitsQ l) (rawQ l l.length) := riseW_ok _
theorem flat1 (q : List Nat) : (q.map fun n => [nV n]).flatten = q.map nV := by
  induction q with
  | nil => rfl
  | cons x q ih => rw [List.map_cons, List.flatten_cons, ih]; rfl
theorem cel_n {h : Base} {KK : List Asrt} {T b m cap j : Nat} {q : List Nat} {y : Nat} (i : Nat) (hi : KK[i]? = some (bufA T 1 (some b) m cap (q.map nV))) (hy : q[j]? = some y) : Cel h KK b j (nV y) := by
  rw [← flat1] at hi
  have := K.cel_rowZ (h := h) (q := 0) (u := nV y) (i := j) i hi (fun e he => by
    obtain ⟨n, _, rfl⟩ := List.mem_map.1 he
    rfl) (by rw [List.getElem?_map, hy]; rfl) rfl
  rwa [Nat.mul_one, Nat.add_zero] at this
structure WtS where
  j : Nat
  a : Option Nat
  k : Nat
set_option maxHeartbeats 4000000 in
theorem Waits (h : Base) (BT : Nat) (a : Option Nat) (k : Nat) (l : List PLock) (hw : ∀ x ∈ l, wfK x) (hG : Glob h) (hl : l.length ≤ 999999) :
    Tr Tryd.prog 13 [.pointer (some ⟨BT, 0, none⟩)] h [rowsA a k l, tabB BT a k l]
      (fun u h' H' => h' = h ∧ ∃ a2 k2, u = bufV a2 (waitsQ l).length k2 ∧ H' = [rowsA a k l, tabB BT a k l, bufW a2 k2 (waitsQ l)]) := by
  have hnn : l.length * l.length ≤ 999998000001 := Nat.mul_le_mul hl hl
  refine K.enter Tryd.func13 rfl (Nat.le_of_ble_eq_true rfl) (fun F => ?_)
  simp only [List.nil_append, List.cons_append]
  (repeat' (first | refine X.rq ?_ | (refine X.rc ?_ ?_ <;> intro hc <;> first | (exfalso; omega) | skip)))
  refine K.WC.nilBuf 47 2 ?_
  refine K.c_loop (σ := WtS) (fun s => [(0, .pointer (some ⟨BT, 0, none⟩)), (3, bufV s.a (rawQ l s.j).length s.k), (13, bufV a l.length k), (14, .int .i64 l.length), (15, .int .i64 s.j)]) (fun _ => h)
    (fun s => bufW s.a s.k (rawQ l s.j) :: rowsA a k l :: tabB BT a k l :: F)
    (fun s => s.j ≤ l.length) (fun s => l.length - s.j) ⟨0, none, 0⟩ (Nat.zero_le _) (by repeat (first | exact K.Sub.nil _ | refine K.Sub.cons rfl ?_)) rfl rfl ?_
  rintro ⟨j, a1, k1⟩ hj KL hKL
  dsimp only at hj ⊢
  have hrl := rawQ_len l j hj
  by_cases hjl : j < l.length
  · have hx1 : l[j]? = some l[j] := List.getElem?_eq_getElem hjl
    have hrs := rawQ_succ hx1
    have hrj : j * l.length + l.length ≤ 999998000001 := by
      have : (j + 1) * l.length ≤ l.length * l.length := Nat.mul_le_mul_right _ hjl
      rw [Nat.add_mul, Nat.one_mul] at this
      omega
    generalize l[j] = x at hx1 hrs
    have hrea := reasons_le l j x
    have hc0 : (l.map cK)[j]? = some (cK x) := by rw [List.getElem?_map, hx1]; rfl
    generalize rawQ l j = r at hrl hrs ⊢
    refine K.WC.someBuf 1 rfl (by omega) (fun b hb' => ?_)
    subst hb'
    (repeat' (first | refine X.rq ?_ | (refine X.rc ?_ ?_ <;> intro hc <;> first | (exfalso; omega) | skip)))
    refine K.s_pure (K.p_loadM (Fx.agg rfl) rfl (by rw [Nat.zero_add]; exact K.cels_rowZ 1 rfl (seven l) hc0) (Fx.sz rfl) rfl) rfl ?_
    refine K.l_alloc (Fx.zr rfl) rfl rfl (fun B5 => ?_)
    (repeat' (first | refine X.rq ?_ | (refine X.rc ?_ ?_ <;> intro hc <;> first | (exfalso; omega) | skip)))
    refine X.stw ?_
    simp only [List.set_cons_zero, List.set_cons_succ, List.eraseIdx_cons_zero, List.eraseIdx_cons_succ, List.cons_append, List.nil_append]
    (repeat' (first | refine X.rq ?_ | (refine X.rc ?_ ?_ <;> intro hc <;> first | (exfalso; omega) | skip)))
    · have hxh : x.held = true := by first | assumption | simp_all
      have hpq : pairsQ l j x = [] := by rw [pairsQ, if_pos hxh]
      rw [hpq, List.append_nil] at hrs
      refine K.AT.sel [0] rfl ?_
      refine K.a_round hKL ⟨j + 1, a1, k1⟩ (by dsimp only; omega) ?_ rfl ?_ (by dsimp only; omega)
      · dsimp only
        rw [hrs]
        exact (by repeat (first | exact K.Sub.nil _ | refine K.Sub.cons rfl ?_))
      · dsimp only
        rw [hrs]
        rfl
    · have hxh : ¬x.held = true := by first | assumption | simp_all
      have hpq : pairsQ l j x = (reasonsQ l j x).map fun u => (x.txn, u) := by rw [pairsQ, if_neg hxh]
      rw [hpq] at hrs
      have hre := ReasonsA h BT (some b) k l j x hw hG hx1 (by omega)
      refine K.l_call (Fx.cal rfl) rfl hre (K.pp [2, 2] rfl) rfl ?_
      rintro u h' H' - ⟨e, a3, k3, rfl, rfl⟩
      obtain rfl := e.symm
      simp only [List.nil_append, List.cons_append]
      clear hre
      simp only [List.set_cons_zero, List.set_cons_succ, List.eraseIdx_cons_zero, List.eraseIdx_cons_succ, List.cons_append, List.nil_append]
      (repeat' (first | refine X.rq ?_ | (refine X.rc ?_ ?_ <;> intro hc <;> first | (exfalso; omega) | skip)))
      refine K.WC.perm (K.pp [4] rfl) ?_
      simp only [List.set_cons_zero, List.set_cons_succ, List.eraseIdx_cons_zero, List.eraseIdx_cons_succ, List.cons_append, List.nil_append]
      refine K.c_loop (σ := WtS) (fun s => [(0, .pointer (some ⟨BT, 0, none⟩)), (3, bufV s.a (r.length + s.j) s.k), (5, .pointer (some ⟨B5, 0, none⟩)), (13, bufV (some b) l.length k), (14, .int .i64 l.length), (15, .int .i64 j), (24, bufV a3 (reasonsQ l j x).length k3), (25, .int .i64 (reasonsQ l j x).length), (26, .int .i64 s.j)]) (fun _ => h)
        (fun s => bufA 47 2 s.a (r.length + s.j) s.k ((r ++ ((reasonsQ l j x).take s.j).map fun u => (x.txn, u)).map cW).flatten :: rowsA (some b) k l :: bufA 34 1 a3 (reasonsQ l j x).length k3 ((reasonsQ l j x).map nV) :: tabB BT (some b) k l :: blk B5 46 (cK x) :: F)
        (fun s => s.j ≤ (reasonsQ l j x).length) (fun s => (reasonsQ l j x).length - s.j) ⟨0, a1, k1⟩ (Nat.zero_le _) (by repeat (first | exact K.Sub.nil _ | refine K.Sub.cons rfl ?_)) rfl ?_ ?_
      · dsimp only
        rw [List.take_zero, List.map_nil, List.append_nil]
        rfl
      generalize hqq : reasonsQ l j x = q at hrs hrea ⊢
      rintro ⟨i, a2, k2⟩ hi KM hKM
      dsimp only at hi ⊢
      by_cases hil : i < q.length
      · have hy1 : q[i]? = some q[i] := List.getElem?_eq_getElem hil
        have htk : q.take (i + 1) = q.take i ++ [q[i]] := List.take_succ_eq_append_getElem hil
        generalize q[i] = y at hy1 htk
        refine K.WC.someBuf 2 rfl (by omega) (fun b2 hb' => ?_)
        subst hb'
        (repeat' (first | refine X.rq ?_ | (refine X.rc ?_ ?_ <;> intro hc <;> first | (exfalso; omega) | skip)))
        refine K.s_pure (K.p_load (v := nV y) (Fx.agg rfl) rfl (cel_n 2 rfl hy1)) rfl ?_
        (repeat' (first | refine X.rq ?_ | (refine X.rc ?_ ?_ <;> intro hc <;> first | (exfalso; omega) | skip)))
        refine K.l_buildSlice (Fx.und rfl) (Fx.sz rfl) rfl (Fx.zr rfl) rfl rfl rfl (cs := cW (x.txn, y)) rfl rfl (fun Bs => ?_)
        refine K.l_append_at 1 rfl (Fx.und rfl) (Fx.und rfl) rfl (Fx.sz rfl) (Fx.zr rfl) rfl (Fx.byt rfl) rfl rfl (K.src_cells (K.cels_own (pre := []) (cs := cW (x.txn, y)) (post := []) 0 rfl rfl) rfl (by simp [oneCell])) (by omega) (by omega) rfl (fun a4 k4 => ?_)
        simp only [List.set_cons_zero, List.set_cons_succ, List.eraseIdx_cons_zero, List.eraseIdx_cons_succ, List.cons_append, List.nil_append]
        (repeat' (first | refine X.rq ?_ | (refine X.rc ?_ ?_ <;> intro hc <;> first | (exfalso; omega) | skip)))
        refine K.AT.sel [0] rfl ?_
        refine K.a_round hKM ⟨i + 1, a4, k4⟩ (by dsimp only; omega) (by repeat (first | exact K.Sub.nil _ | refine K.Sub.cons rfl ?_)) rfl ?_ (by dsimp only; omega)
        dsimp only
        have e1 : ((r ++ (q.take (i + 1)).map fun u => (x.txn, u)).map cW).flatten = ((r ++ (q.take i).map fun u => (x.txn, u)).map cW).flatten ++ cW (x.txn, y) := by
          rw [htk]; simp
        rw [e1]
        rfl
      · obtain rfl : i = q.length := by omega
        rw [List.take_length]
        have hrl2 : (r ++ q.map fun u => (x.txn, u)).length = r.length + q.length := by rw [List.length_append, List.length_map]
        (repeat' (first | refine X.rq ?_ | (refine X.rc ?_ ?_ <;> intro hc <;> first | (exfalso; omega) | skip)))
        refine K.AT.sel [2, 3] rfl ?_
        refine K.a_round hKL ⟨j + 1, a2, k2⟩ (by dsimp only; omega) ?_ rfl ?_ (by dsimp only; omega)
        · dsimp only
          rw [hrs, hrl2]
          exact (by repeat (first | exact K.Sub.nil _ | refine K.Sub.cons rfl ?_))
        · dsimp only
          rw [hrs, bufW, hrl2]
          rfl
  · obtain rfl : j = l.length := by omega
    (repeat' (first | refine X.rq ?_ | (refine X.rc ?_ ?_ <;> intro hc <;> first | (exfalso; omega) | skip)))
    refine K.l_call (Fx.cal rfl) rfl (SortW h a1 (rawQ l l.length).length k1 (rawQ l l.length) rfl (by omega)) (K.pp [0] rfl) rfl ?_
    rintro u h' H' - ⟨e, rfl, l2, hp, hs, rfl⟩
    obtain rfl := e
    simp only [List.nil_append, List.cons_append]
    have hl2 : (rawQ l l.length).length = l2.length := hp.length_eq.symm
    have hcm := CompactW h a1 k1 l2 (hs.imp fun {x y} e => by rw [cmpW_lt] at e; exact of_decide_eq_false e) (by omega)
    rw [hl2]
    (repeat' (first | refine X.rq ?_ | (refine X.rc ?_ ?_ <;> intro hc <;> first | (exfalso; omega) | skip)))
    refine K.l_call (Fx.cal rfl) rfl hcm (K.pp [0] rfl) rfl ?_
    rintro u h' H' - ⟨e, p, a2, k2, rfl, rfl, hon⟩
    obtain rfl := e.symm
    simp only [List.nil_append, List.cons_append]
    obtain rfl : p = waitsQ l := OnceW.uniq ⟨hon.rise, fun x => (hon.mem x).trans hp.mem_iff⟩ (waits_ok l)
    (repeat' (first | refine X.rq ?_ | (refine X.rc ?_ ?_ <;> intro hc <;> first | (exfalso; omega) | skip)))
    refine K.AT.perm (K.pp [1, 1] rfl) ?_
    refine K.done (by first | exact Or.inl rfl | exact Or.inr rfl) rfl (by first | exact K.Base.le.refl _ | assumption) (H' := [_, _, _]) rfl ⟨rfl, a2, k2, rfl, rfl⟩
end Go.Proofs.YtcpdfajaggbjlaaDoor.Lk
