/-
  Who is to end a ring: the code's. Conditions: each theorem's own.
-/
import Derived.Test.YtcpdfajaggbjlaaDoorTs

namespace Go.Proofs.YtcpdfajaggbjlaaDoor.Lk
open Go Go.K Go.Proofs Go.Proofs.YtcpdfajaggbjlaaDoor
set_option linter.unusedVariables false
set_option linter.unusedSimpArgs false
set_option maxRecDepth 10000

/-- The greatest of those that are in a ring, or nobody. -/
structure IsVict (w : List PW) (v : Nat) : Prop where
  ring : v = 0 ∨ ReachW w v v
  most : ∀ q, ReachW w q q → q ≤ v
theorem IsVict.uniq {w : List PW} {u v : Nat} (h1 : IsVict w u) (h2 : IsVict w v) : u = v := by
  have a : u ≤ v := h1.ring.elim (fun e => by omega) (h2.most u)
  have b : v ≤ u := h2.ring.elim (fun e => by omega) (h1.most v)
  omega
theorem ReachW.first {w : List PW} {a b : Nat} (h : ReachW w a b) : ∃ x, (a, x) ∈ w := by
  cases h with
  | one h => exact ⟨_, h⟩
  | more h _ => exact ⟨_, h⟩
theorem outs_take {w : List PW} {j : Nat} {p : PW} (hp : w[j]? = some p) (q : Nat) : outsW (w.take (j + 1)) q = outsW (w.take j) q ++ if p.1 = q then [p.2] else [] := by
  obtain ⟨hj, rfl⟩ := List.getElem?_eq_some_iff.1 hp
  unfold outsW
  rw [List.take_succ_eq_append_getElem hj, List.filter_append, List.map_append]
  congr 1
  by_cases h : (w[j]).1 = q <;> simp [h]
theorem raw_mem {l : List PLock} {p : PW} : ∀ {j : Nat}, j ≤ l.length → (p ∈ rawQ l j ↔ ∃ i x, i < j ∧ l[i]? = some x ∧ p ∈ pairsQ l i x)
  | 0, _ => ⟨fun h => by simp [rawQ] at h, fun ⟨i, _, h, _⟩ => by omega⟩
  | j + 1, hj => by
    have hx : l[j]? = some l[j] := List.getElem?_eq_getElem (by omega)
    rw [rawQ_succ hx, List.mem_append, raw_mem (j := j) (by omega)]
    constructor
    · rintro (⟨i, x, h1, h2, h3⟩ | h)
      · exact ⟨i, x, by omega, h2, h3⟩
      · exact ⟨j, _, Nat.lt_succ_self _, hx, h⟩
    · rintro ⟨i, x, h1, h2, h3⟩
      by_cases h : i = j
      · subst h
        rw [hx] at h2
        cases h2
        exact .inr h3
      · exact .inl ⟨i, x, by omega, h2, h3⟩
theorem waits_mem {l : List PLock} {p : PW} : p ∈ waitsQ l ↔ ∃ i x, l[i]? = some x ∧ x.held = false ∧ p.1 = x.txn ∧ p.2 ∈ reasonsQ l i x := by
  rw [(waits_ok l).mem p, raw_mem (Nat.le_refl _)]
  unfold pairsQ
  constructor
  · rintro ⟨i, x, h1, h2, h3⟩
    cases hx : x.held with
    | true => rw [if_pos hx] at h3; cases h3
    | false =>
      rw [if_neg (by rw [hx]; decide)] at h3
      obtain ⟨u, hu, rfl⟩ := List.mem_map.1 h3
      exact ⟨i, x, h2, hx, rfl, hu⟩
  · rintro ⟨i, x, h1, h2, h3, h4⟩
    refine ⟨i, x, (List.getElem?_eq_some_iff.1 h1).1, h1, ?_⟩
    rw [if_neg (by rw [h2]; decide)]
    exact List.mem_map.2 ⟨p.2, h4, pw_ext h3.symm rfl⟩
theorem sel_mem {s : Nat → PLock → Bool} {u : Nat} : ∀ {l : List PLock} {j : Nat}, u ∈ selQ s j l ↔ ∃ i x, l[i]? = some x ∧ s (j + i) x = true ∧ x.txn = u
  | [], j => ⟨fun h => by simp [selQ] at h, fun ⟨i, x, h, _⟩ => by simp at h⟩
  | y :: l, j => by
    rw [selQ, List.mem_append, sel_mem (l := l) (j := j + 1)]
    constructor
    · rintro (h | ⟨i, x, h1, h2, h3⟩)
      · split at h
        · rename_i hs
          exact ⟨0, y, rfl, hs, (List.mem_singleton.1 h).symm⟩
        · cases h
      · exact ⟨i + 1, x, h1, by rw [show j + (i + 1) = j + 1 + i by omega]; exact h2, h3⟩
    · rintro ⟨i, x, h1, h2, h3⟩
      cases i with
      | zero =>
        cases h1
        refine .inl ?_
        rw [if_pos (show s j y = true from h2)]
        exact List.mem_singleton.2 h3.symm
      | succ i => exact .inr ⟨i, x, h1, by rw [show j + 1 + i = j + (i + 1) by omega]; exact h2, h3⟩
theorem reasons_mem {l : List PLock} {i : Nat} {q : PLock} {u : Nat} : u ∈ reasonsQ l i q ↔ ∃ k x, l[k]? = some x ∧ whyQ l i q k x = true ∧ x.txn = u := by
  rw [reasonsQ, sel_mem]
  simp only [Nat.zero_add]
theorem waits_wf {l : List PLock} (hw : ∀ x ∈ l, wfK x) : ∀ p ∈ waitsQ l, p.1 < 4294967296 ∧ p.2 < 4294967296 := fun p hp => by
  obtain ⟨i, x, h1, h2, h3, h4⟩ := waits_mem.1 hp
  obtain ⟨k, y, h5, h6, h7⟩ := reasons_mem.1 h4
  rw [h3, ← h7]
  exact ⟨(hw x (List.mem_of_getElem? h1)).txn, (hw y (List.mem_of_getElem? h5)).txn⟩
theorem nodup_leW : ∀ {l m : List PW}, l.Pairwise (fun x y => x ≠ y) → (∀ x ∈ l, x ∈ m) → l.length ≤ m.length
  | [], m, _, _ => Nat.zero_le _
  | x :: l, m, hn, hs => by
    obtain ⟨h1, h2⟩ := List.pairwise_cons.1 hn
    have hx := hs x List.mem_cons_self
    have := nodup_leW (l := l) (m := m.erase x) h2 fun y hy => (List.mem_erase_of_ne (fun (e : y = x) => h1 y hy e.symm)).2 (hs y (List.mem_cons_of_mem _ hy))
    rw [List.length_erase_of_mem hx] at this
    have := List.length_pos_of_mem hx
    rw [List.length_cons]
    omega
theorem waits_len {l : List PLock} (hl : l.length ≤ 999999) : (waitsQ l).length ≤ 999998000001 := by
  have h1 := rawQ_len l l.length (Nat.le_refl _)
  have h2 : l.length * l.length ≤ 999998000001 := Nat.mul_le_mul hl hl
  have h3 : (waitsQ l).length ≤ (rawQ l l.length).length := nodup_leW ((waits_ok l).rise.imp fun {x y} (h : ltW x y) (e : x = y) => ltW_irr x (by rw [← e] at h; exact h)) fun x hx => ((waits_ok l).mem x).1 hx
  omega
/-- The map that is made of pairs, behind some of them. -/
structure NextI (h : Base) (w : List PW) (j : Nat) (m : List ME) (c q : Nat) (xs : List Nat) (a : Option Nat) (k : Nat) : Prop where
  ok : MapOk m c
  keys : ∀ e ∈ m, ∃ p ∈ w.take j, e.1 = (p.1 : Int)
  cur : j = 0 ∧ xs = [] ∧ a = none ∧ k = 0 ∨ ∃ p, 0 < j ∧ w[j - 1]? = some p ∧ p.1 = q ∧ xs = outsW (w.take j) q ∧ Go.K.look m q = some (bufV a xs.length k)
  old : ∀ r : Nat, (j = 0 ∨ r ≠ q) → outsW (w.take j) r = [] ∧ Go.K.look m r = none ∨ outsW (w.take j) r ≠ [] ∧ ∃ v, Go.K.look m r = some v ∧ SL h 1 v ((outsW (w.take j) r).map fun u => [nV u])
theorem NextI.nil (h : Base) (w : List PW) : NextI h w 0 [] 0 0 [] none 0 :=
  ⟨MapOk.nil, (fun e he => by cases he), .inl ⟨rfl, rfl, rfl, rfl⟩, fun r _ => .inl ⟨rfl, rfl⟩⟩
theorem NextI.same {h : Base} {w : List PW} {j : Nat} {m : List ME} {c q : Nat} {xs : List Nat} {a : Option Nat} {k : Nat} (hi : NextI h w j m c q xs a k) {p : PW} (hp : w[j]? = some p) (hj : 0 < j) (hq : p.1 = q) (a' : Option Nat) (k' : Nat) :
    NextI h w (j + 1) (putM m c (p.1 : Int) (bufV a' (xs.length + 1) k')) (putC m c (p.1 : Int)) q (xs ++ [p.2]) a' k' := by
  have hxs : xs = outsW (w.take j) q := by
    rcases hi.cur with ⟨e, _⟩ | ⟨_, _, _, _, e, _⟩
    · omega
    · exact e
  refine ⟨hi.ok.put _ _, fun e he => ?_, .inr ⟨p, Nat.succ_pos _, hp, hq, ?_, ?_⟩, fun r hr => ?_⟩
  · have h1 := mem_look (hi.ok.put (p.1 : Int) (bufV a' (xs.length + 1) k')).keys he
    rw [Go.K.look_put] at h1
    by_cases h2 : e.1 = (p.1 : Int)
    · refine ⟨p, ?_, h2⟩
      obtain ⟨hl, rfl⟩ := List.getElem?_eq_some_iff.1 hp
      rw [List.take_succ_eq_append_getElem hl]
      exact List.mem_append_right _ (List.mem_singleton.2 rfl)
    · rw [if_neg h2] at h1
      obtain ⟨f, hf, h3, _⟩ := look_mem h1
      obtain ⟨p2, h4, h5⟩ := hi.keys f hf
      exact ⟨p2, List.mem_of_mem_take (l := w.take (j + 1)) (i := j) (by rw [List.take_take, Nat.min_eq_left (by omega)]; exact h4), by rw [← h3]; exact h5⟩
  · rw [outs_take hp, if_pos hq, hxs]
  · rw [Go.K.look_put, if_pos (by omega), List.length_append]; rfl
  · have hr : r ≠ q := hr.elim (fun e => by omega) id
    rw [outs_take hp, if_neg (by omega), List.append_nil, Go.K.look_put, if_neg (by omega)]
    exact hi.old r (.inr hr)
theorem NextI.next {h h2 : Base} {w : List PW} {j : Nat} {m : List ME} {c q : Nat} {xs : List Nat} {a : Option Nat} {k : Nat} (hi : NextI h w j m c q xs a k) (hle : h.le h2) (hs : SL h2 1 (bufV a xs.length k) (xs.map fun u => [nV u])) {p : PW} (hp : w[j]? = some p) (hq : j = 0 ∨ p.1 ≠ q)
    (hn : outsW (w.take j) p.1 = []) (a' : Option Nat) (k' : Nat) : NextI h2 w (j + 1) (putM m c (p.1 : Int) (bufV a' 1 k')) (putC m c (p.1 : Int)) p.1 [p.2] a' k' := by
  refine ⟨hi.ok.put _ _, fun e he => ?_, .inr ⟨p, Nat.succ_pos _, hp, rfl, ?_, ?_⟩, fun r hr => ?_⟩
  · have h1 := mem_look (hi.ok.put (p.1 : Int) (bufV a' 1 k')).keys he
    rw [Go.K.look_put] at h1
    by_cases h2 : e.1 = (p.1 : Int)
    · refine ⟨p, ?_, h2⟩
      obtain ⟨hl, rfl⟩ := List.getElem?_eq_some_iff.1 hp
      rw [List.take_succ_eq_append_getElem hl]
      exact List.mem_append_right _ (List.mem_singleton.2 rfl)
    · rw [if_neg h2] at h1
      obtain ⟨f, hf, h3, _⟩ := look_mem h1
      obtain ⟨p2, h4, h5⟩ := hi.keys f hf
      exact ⟨p2, List.mem_of_mem_take (l := w.take (j + 1)) (i := j) (by rw [List.take_take, Nat.min_eq_left (by omega)]; exact h4), by rw [← h3]; exact h5⟩
  · rw [outs_take hp, if_pos rfl, hn]; rfl
  · rw [Go.K.look_put, if_pos rfl]; rfl
  · have hr : r ≠ p.1 := hr.elim (fun e => by omega) id
    rw [outs_take hp, if_neg (fun e => hr e.symm), List.append_nil, Go.K.look_put, if_neg (by omega)]
    by_cases hrq : j = 0 ∨ r ≠ q
    · rcases hi.old r hrq with h1 | ⟨h1, v, h3, h4⟩
      · exact .inl h1
      · exact .inr ⟨h1, v, h3, h4.le hle⟩
    · have hj : j ≠ 0 := fun e => hrq (.inl e)
      obtain rfl : r = q := Classical.byContradiction fun e => hrq (.inr e)
      rcases hi.cur with ⟨e, _⟩ | ⟨p2, _, h1, h3, h4, h5⟩
      · exact absurd e hj
      · refine .inr ⟨fun e => ?_, _, h5, by rw [← h4]; exact hs⟩
        have : p2.2 ∈ outsW (w.take j) r := mem_outs.2 (by
          rw [← h3]
          have hj1 : j - 1 < w.length := (List.getElem?_eq_some_iff.1 h1).1
          exact List.mem_iff_getElem?.2 ⟨j - 1, by rw [List.getElem?_take, if_pos (by omega)]; exact h1⟩)
        rw [e] at this
        cases this
theorem NextI.fin {h h2 : Base} {w : List PW} {m : List ME} {c q : Nat} {xs : List Nat} {a : Option Nat} {k : Nat} (hi : NextI h w w.length m c q xs a k) (hle : h.le h2) (hs : SL h2 1 (bufV a xs.length k) (xs.map fun u => [nV u])) :
    NextM h2 m w ∧ (∀ e ∈ m, ∃ p ∈ w, e.1 = (p.1 : Int)) ∧ ∀ p ∈ w, ∃ e ∈ m, e.1 = (p.1 : Int) := by
  have hk := hi.keys
  have ho := hi.old
  have hc := hi.cur
  rw [List.take_length] at hk ho hc
  have key : ∀ r : Nat, outsW w r = [] ∧ Go.K.look m r = none ∨ outsW w r ≠ [] ∧ ∃ v, Go.K.look m r = some v ∧ SL h2 1 v ((outsW w r).map fun u => [nV u]) := fun r => by
    by_cases hr : w.length = 0 ∨ r ≠ q
    · rcases ho r hr with h1 | ⟨h1, v, h3, h4⟩
      · exact .inl h1
      · exact .inr ⟨h1, v, h3, h4.le hle⟩
    · have hj : w.length ≠ 0 := fun e => hr (.inl e)
      obtain rfl : r = q := Classical.byContradiction fun e => hr (.inr e)
      rcases hc with ⟨e, _⟩ | ⟨p2, _, h1, h3, h4, h5⟩
      · exact absurd e hj
      · refine .inr ⟨fun e => ?_, _, h5, by rw [← h4]; exact hs⟩
        have : p2.2 ∈ outsW w r := mem_outs.2 (by rw [← h3]; exact List.mem_of_getElem? h1)
        rw [e] at this
        cases this
  refine ⟨fun r => ?_, hk, fun p hp => ?_⟩
  · rcases key r with ⟨h1, h3⟩ | ⟨_, v, h3, h4⟩
    · rw [h1, h3]
      exact .inl ⟨none, 0, rfl, rfl⟩
    · rw [h3]; exact h4
  · have h1 : outsW w p.1 ≠ [] := fun e => by
      have : p.2 ∈ outsW w p.1 := mem_outs.2 hp
      rw [e] at this
      cases this
    rcases key p.1 with ⟨h3, _⟩ | ⟨_, v, h3, _⟩
    · exact absurd h3 h1
    · obtain ⟨e, he, h4, _⟩ := look_mem h3
      exact ⟨e, he, h4⟩
theorem one_app (xs : List Nat) (x : Nat) : xs.map nV ++ [nV x] = (xs ++ [x]).map nV := by rw [List.map_append]; rfl
theorem FolP.ring {w : List PW} {r : Nat} {S : List Nat} (h : FolP w r [] S) : r ∈ S ↔ ReachW w r r := by
  constructor
  · intro hr
    exact (h.reach r hr).elim (fun e => by cases e) id
  · have key : ∀ {a b : Nat}, ReachW w a b → a ∈ S ∨ a = r → b ∈ S := by
      intro a b hab
      induction hab with
      | one h1 => exact fun e => e.elim (fun e => h.shut _ e List.not_mem_nil _ h1) fun e => h.all _ (e ▸ h1)
      | more h1 _ ih => exact fun e => ih (.inl (e.elim (fun e => h.shut _ e List.not_mem_nil _ h1) fun e => h.all _ (e ▸ h1)))
    exact fun hr => key hr (.inr rfl)
structure VcS where
  hb : Base
  j : Nat
  m : List ME
  c : Nat
  q : Nat
  xs : List Nat
  a : Option Nat
  k : Nat
structure VrS where
  seen : List Nat
  most : Nat
set_option maxHeartbeats 4000000 in
theorem Victim (h : Base) (BT : Nat) (a : Option Nat) (k : Nat) (l : List PLock) (hw : ∀ x ∈ l, wfK x) (hG : Glob h) (hl : l.length ≤ 999999) :
    Tr Tryd.prog 17 [.pointer (some ⟨BT, 0, none⟩)] h [rowsA a k l, tabB BT a k l]
      (fun u h' H' => ∃ v : Nat, u = .int .u32 v ∧ IsVict (waitsQ l) v ∧ v < 4294967296 ∧ H' = [rowsA a k l, tabB BT a k l]) := by
  have hwb := waits_wf hw
  have hwl := waits_len hl
  have hwr := (waits_ok l).rise
  have hwa := Waits h BT a k l hw hG hl
  generalize waitsQ l = w at hwb hwl hwr hwa ⊢
  refine K.enter Tryd.func17 rfl (Nat.le_of_ble_eq_true rfl) (fun F => ?_)
  simp only [List.nil_append, List.cons_append]
  (repeat' (first | refine X.rq ?_ | (refine X.rc ?_ ?_ <;> intro hc <;> first | (exfalso; omega) | skip)))
  refine K.l_makeMap (kk := .u32) rfl (fun M => ?_)
  refine K.l_alloc (Fx.zr rfl) rfl rfl (fun BN => ?_)
  refine X.sto ?_
  simp only [List.set_cons_zero, List.set_cons_succ, List.eraseIdx_cons_zero, List.eraseIdx_cons_succ, List.cons_append, List.nil_append]
  (repeat' (first | refine X.rq ?_ | (refine X.rc ?_ ?_ <;> intro hc <;> first | (exfalso; omega) | skip)))
  refine K.l_call (Fx.cal rfl) rfl hwa (K.pp [2, 2] rfl) rfl ?_
  rintro u h' H' - ⟨e, aw, kw, rfl, rfl⟩
  obtain rfl := e.symm
  simp only [List.nil_append, List.cons_append]
  clear hwa
  simp only [List.set_cons_zero, List.set_cons_succ, List.eraseIdx_cons_zero, List.eraseIdx_cons_succ, List.cons_append, List.nil_append]
  (repeat' (first | refine X.rq ?_ | (refine X.rc ?_ ?_ <;> intro hc <;> first | (exfalso; omega) | skip)))
  refine K.WC.perm (K.pp [3, 3, 2] rfl) ?_
  refine K.WC.nilBuf 34 1 ?_
  refine K.c_loop (σ := VcS) (fun s => [(3, .pointer (some ⟨BN, 0, none⟩)), (12, bufV aw w.length kw), (13, .int .i64 w.length), (14, .int .i64 s.j)]) (fun s => s.hb)
    (fun s => bufA 34 1 s.a s.xs.length s.k (s.xs.map nV) :: blk BN 68 [.map (some M)] :: mapA M .u32 s.m s.c :: bufW aw kw w :: rowsA a k l :: tabB BT a k l :: F)
    (fun s => h.le s.hb ∧ s.j ≤ w.length ∧ NextI s.hb w s.j s.m s.c s.q s.xs s.a s.k) (fun s => w.length - s.j) ⟨h, 0, [], 0, 0, [], none, 0⟩ ⟨K.Base.le.refl h, Nat.zero_le _, NextI.nil h w⟩ (by repeat (first | exact K.Sub.nil _ | refine K.Sub.cons rfl ?_)) rfl rfl ?_
  rintro ⟨hb, j, m, c, q, xs, a1, k1⟩ ⟨hle, hj, hI⟩ KL hKL
  dsimp only at hle hj hI ⊢
  by_cases hjl : j < w.length
  · have hp : w[j]? = some w[j] := List.getElem?_eq_getElem hjl
    have hpb := hwb _ (List.getElem_mem hjl)
    have hxl : xs.length ≤ w.length := by
      rcases hI.cur with ⟨_, e, _⟩ | ⟨_, _, _, _, e, _⟩
      · rw [e]; exact Nat.zero_le _
      · rw [e, outsW, List.length_map]
        exact Nat.le_trans (List.length_filter_le ..) (List.length_take_le' ..)
    have hlow : ∀ r ∈ w.take j, r.1 ≤ (w[j]).1 := fun r hr => by
      obtain ⟨i, hi⟩ := List.mem_iff_getElem?.1 hr
      rw [List.getElem?_take] at hi
      split at hi
      · obtain ⟨i1, rfl⟩ := List.getElem?_eq_some_iff.1 hi
        have := List.pairwise_iff_getElem.1 hwr i j i1 hjl (by omega)
        unfold ltW at this
        omega
      · cases hi
    generalize w[j] = p at hp hpb hlow
    have hc0 : (w.map cW)[j]? = some (cW p) := by rw [List.getElem?_map, hp]; rfl
    refine K.WC.someBuf 3 rfl (by omega) (fun b hb' => ?_)
    subst hb'
    by_cases hcase : 0 < j ∧ p.1 = q
    · obtain ⟨hj0, hpq⟩ := hcase
      have hlk : Go.K.look m (p.1 : Int) = some (bufV a1 xs.length k1) := by
        rcases hI.cur with ⟨e, _⟩ | ⟨_, _, _, _, _, e⟩
        · omega
        · rw [hpq]; exact e
      have hn := hI.same hp hj0 hpq
      have hok := hI.ok
      (repeat' (first | refine X.rq ?_ | (refine X.rc ?_ ?_ <;> intro hc <;> first | (exfalso; omega) | skip)))
      refine K.s_pure (K.p_loadN (vs := cW p) (Fx.agg rfl) (Fx.sz rfl) rfl (by rw [Nat.zero_add]; exact cel_W 3 rfl hp rfl)) rfl ?_
      refine K.l_alloc (Fx.zr rfl) rfl rfl (fun B5 => ?_)
      (repeat' (first | refine X.rq ?_ | (refine X.rc ?_ ?_ <;> intro hc <;> first | (exfalso; omega) | skip)))
      refine X.stw ?_
      simp only [List.set_cons_zero, List.set_cons_succ, List.eraseIdx_cons_zero, List.eraseIdx_cons_succ, List.cons_append, List.nil_append]
      (repeat' (first | refine X.rq ?_ | (refine X.rc ?_ ?_ <;> intro hc <;> first | (exfalso; omega) | skip)))
      refine X.draw ([blk B5 47 (cW p), blk BN 68 [.map (some M)], mapA M .u32 m c]) [11] (.pu 1 (.pu 4 (.pu 7 (.st 0 (.st 2 (.st 3 (.st 5 (.st 6 (.st 8 (.on 9 (.on 10 (.cl 11 .nil)))))))))))) ?_ (hQ := by repeat (first | with_reducible refine K.NoPanic.then ?_ | with_reducible refine K.NoPanic.inBlock ?_ | with_reducible exact K.post_noPanic _ _ | exact K.post_noPanic _ _))
      refine K.d_pu rfl (fun _ _ => X.ia) rfl ?_
      refine K.d_pu rfl (fun _ _ => X.ia) rfl ?_
      refine K.d_pu rfl (fun _ _ => X.ia) rfl ?_
      refine K.d_st rfl (K.p_load (Fx.agg rfl) rfl (K.cel_own 1 rfl rfl)) rfl ?_
      refine K.d_st rfl (K.p_load (v := .int .u32 p.1) (Fx.agg rfl) rfl (K.cel_own 0 rfl rfl)) rfl ?_
      refine K.d_st rfl (K.p_load (Fx.agg rfl) rfl (K.cel_own 1 rfl rfl)) rfl ?_
      refine K.d_st rfl (K.p_load (v := .int .u32 p.1) (Fx.agg rfl) rfl (K.cel_own 0 rfl rfl)) rfl ?_
      refine K.d_st rfl (K.p_lookup (v := bufV a1 xs.length k1) 2 rfl rfl rfl rfl rfl rfl (by rw [hlk]; rfl)) rfl ?_
      refine K.d_st rfl (K.p_load (v := .int .u32 p.2) (Fx.agg rfl) rfl (K.cel_own 0 rfl rfl)) rfl ?_
      refine K.d_on rfl (fun KK hKK => ?_)
      refine K.l_buildSlice (Fx.und rfl) (Fx.sz rfl) rfl (Fx.zr rfl) rfl rfl rfl (cs := [.int .u32 p.2]) rfl rfl (fun Bs => ?_)
      refine K.l_nil ?_
      refine X.onE hKK ?_
      refine K.d_on rfl (fun KK hKK => ?_)
      refine K.l_append_at 2 rfl (Fx.und rfl) (Fx.und rfl) rfl (Fx.sz rfl) (Fx.zr rfl) rfl (Fx.byt rfl) rfl rfl (K.src_cells (K.cels_own (pre := []) (cs := [.int .u32 p.2]) (post := []) 0 rfl rfl) rfl (by simp [oneCell])) (by omega) (by omega) rfl (fun a2 k2 => ?_)
      simp only [List.set_cons_zero, List.set_cons_succ, List.eraseIdx_cons_zero, List.eraseIdx_cons_succ, List.cons_append, List.nil_append]
      refine K.l_nil ?_
      refine X.onE hKK ?_
      refine K.d_cl rfl (fun KK hKK => ?_)
      refine K.l_update_at 4 rfl rfl rfl hok rfl rfl rfl ?_
      simp only [List.set_cons_zero, List.set_cons_succ, List.eraseIdx_cons_zero, List.eraseIdx_cons_succ, List.cons_append, List.nil_append]
      refine K.l_nil ?_
      refine K.d_clE hKK ?_
      refine K.d_nil ?_
      (repeat' (first | refine X.rq ?_ | (refine X.rc ?_ ?_ <;> intro hc <;> first | (exfalso; omega) | skip)))
      refine K.AT.sel [0, 0] rfl ?_
      refine K.a_round hKL ⟨hb, j + 1, _, _, q, xs ++ [p.2], a2, k2⟩ ⟨hle, by dsimp only; omega, hn a2 k2⟩ (by repeat (first | exact K.Sub.nil _ | refine K.Sub.cons rfl ?_)) rfl ?_ (by dsimp only; omega)
      dsimp only
      rw [List.length_append, ← one_app]
      rfl
    · have hq : j = 0 ∨ p.1 ≠ q := by
        by_cases e : j = 0
        · exact .inl e
        · exact .inr fun e2 => hcase ⟨by omega, e2⟩
      have hlk0 : outsW (w.take j) p.1 = [] ∧ Go.K.look m (p.1 : Int) = none := by
        rcases hI.old p.1 hq with h1 | ⟨h1, _⟩
        · exact h1
        · refine absurd ?_ h1
          refine List.eq_nil_iff_forall_not_mem.2 fun x hx => ?_
          have hx := mem_outs.1 hx
          rcases hq with e | hq
          · rw [e] at hx; cases hx
          · rcases hI.cur with ⟨e, _⟩ | ⟨p2, hj0, e1, e2, _⟩
            · rw [e] at hx; cases hx
            · obtain ⟨i, hi⟩ := List.mem_iff_getElem?.1 hx
              rw [List.getElem?_take] at hi
              split at hi
              · rename_i hij
                obtain ⟨i1, hi2⟩ := List.getElem?_eq_some_iff.1 hi
                obtain ⟨j1, hj2⟩ := List.getElem?_eq_some_iff.1 e1
                have h3 : w[i].1 ≤ w[j - 1].1 := by
                  rcases Nat.lt_or_ge i (j - 1) with h4 | h4
                  · have := List.pairwise_iff_getElem.1 hwr i (j - 1) i1 j1 h4
                    unfold ltW at this
                    omega
                  · obtain rfl : i = j - 1 := by omega
                    exact Nat.le_refl _
                have h5 := hlow _ (List.mem_iff_getElem?.2 ⟨j - 1, by rw [List.getElem?_take, if_pos (by omega)]; exact e1⟩)
                rw [hi2, hj2, e2] at h3
                rw [e2] at h5
                dsimp only at h3
                omega
              · cases hi
      obtain ⟨ho0, hlk⟩ := hlk0
      have hok := hI.ok
      rw [← flat1]
      have hxe : (xs.map fun n => [nV n]).length = xs.length := List.length_map ..
      rw [← hxe]
      refine K.WC.freezeRow (fun e he => by
        obtain ⟨n, _, rfl⟩ := List.mem_map.1 he
        rfl) (fun h2 hle2 hsl _ => ?_)
      rw [hxe] at hsl
      have hn := hI.next hle2 hsl hp hq ho0
      refine K.WC.nilBuf 34 1 ?_
      (repeat' (first | refine X.rq ?_ | (refine X.rc ?_ ?_ <;> intro hc <;> first | (exfalso; omega) | skip)))
      refine K.s_pure (K.p_loadN (vs := cW p) (Fx.agg rfl) (Fx.sz rfl) rfl (by rw [Nat.zero_add]; exact cel_W 3 rfl hp rfl)) rfl ?_
      refine K.l_alloc (Fx.zr rfl) rfl rfl (fun B5 => ?_)
      (repeat' (first | refine X.rq ?_ | (refine X.rc ?_ ?_ <;> intro hc <;> first | (exfalso; omega) | skip)))
      refine X.stw ?_
      simp only [List.set_cons_zero, List.set_cons_succ, List.eraseIdx_cons_zero, List.eraseIdx_cons_succ, List.cons_append, List.nil_append]
      (repeat' (first | refine X.rq ?_ | (refine X.rc ?_ ?_ <;> intro hc <;> first | (exfalso; omega) | skip)))
      refine X.draw ([blk B5 47 (cW p), blk BN 68 [.map (some M)], mapA M .u32 m c]) [11] (.pu 1 (.pu 4 (.pu 7 (.st 0 (.st 2 (.st 3 (.st 5 (.st 6 (.st 8 (.on 9 (.on 10 (.cl 11 .nil)))))))))))) ?_ (hQ := by repeat (first | with_reducible refine K.NoPanic.then ?_ | with_reducible refine K.NoPanic.inBlock ?_ | with_reducible exact K.post_noPanic _ _ | exact K.post_noPanic _ _))
      refine K.d_pu rfl (fun _ _ => X.ia) rfl ?_
      refine K.d_pu rfl (fun _ _ => X.ia) rfl ?_
      refine K.d_pu rfl (fun _ _ => X.ia) rfl ?_
      refine K.d_st rfl (K.p_load (Fx.agg rfl) rfl (K.cel_own 1 rfl rfl)) rfl ?_
      refine K.d_st rfl (K.p_load (v := .int .u32 p.1) (Fx.agg rfl) rfl (K.cel_own 0 rfl rfl)) rfl ?_
      refine K.d_st rfl (K.p_load (Fx.agg rfl) rfl (K.cel_own 1 rfl rfl)) rfl ?_
      refine K.d_st rfl (K.p_load (v := .int .u32 p.1) (Fx.agg rfl) rfl (K.cel_own 0 rfl rfl)) rfl ?_
      refine K.d_st rfl (K.p_lookup (v := .slice none 0 0) 2 rfl rfl rfl rfl rfl rfl (by rw [hlk]; rfl)) rfl ?_
      refine K.d_st rfl (K.p_load (v := .int .u32 p.2) (Fx.agg rfl) rfl (K.cel_own 0 rfl rfl)) rfl ?_
      refine K.d_on rfl (fun KK hKK => ?_)
      refine K.l_buildSlice (Fx.und rfl) (Fx.sz rfl) rfl (Fx.zr rfl) rfl rfl rfl (cs := [.int .u32 p.2]) rfl rfl (fun Bs => ?_)
      refine K.l_nil ?_
      refine X.onE hKK ?_
      refine K.d_on rfl (fun KK hKK => ?_)
      refine K.l_append_at 2 rfl (Fx.und rfl) (Fx.und rfl) rfl (Fx.sz rfl) (Fx.zr rfl) rfl (Fx.byt rfl) rfl rfl (K.src_cells (K.cels_own (pre := []) (cs := [.int .u32 p.2]) (post := []) 0 rfl rfl) rfl (by simp [oneCell])) (by omega) (by omega) rfl (fun a2 k2 => ?_)
      simp only [List.set_cons_zero, List.set_cons_succ, List.eraseIdx_cons_zero, List.eraseIdx_cons_succ, List.cons_append, List.nil_append]
      refine K.l_nil ?_
      refine X.onE hKK ?_
      refine K.d_cl rfl (fun KK hKK => ?_)
      refine K.l_update_at 4 rfl rfl rfl hok rfl rfl rfl ?_
      simp only [List.set_cons_zero, List.set_cons_succ, List.eraseIdx_cons_zero, List.eraseIdx_cons_succ, List.cons_append, List.nil_append]
      refine K.l_nil ?_
      refine K.d_clE hKK ?_
      refine K.d_nil ?_
      (repeat' (first | refine X.rq ?_ | (refine X.rc ?_ ?_ <;> intro hc <;> first | (exfalso; omega) | skip)))
      refine K.AT.sel [0, 0] rfl ?_
      refine K.a_round hKL ⟨h2, j + 1, _, _, p.1, [p.2], a2, k2⟩ ⟨hle.trans hle2, by dsimp only; omega, hn a2 k2⟩ (by repeat (first | exact K.Sub.nil _ | refine K.Sub.cons rfl ?_)) rfl rfl (by dsimp only; omega)
  · obtain rfl : j = w.length := by omega
    rw [← flat1]
    have hxe : (xs.map fun n => [nV n]).length = xs.length := List.length_map ..
    rw [← hxe]
    refine K.WC.freezeRow (fun e he => by
      obtain ⟨n, _, rfl⟩ := List.mem_map.1 he
      rfl) (fun h2 hle2 hsl _ => ?_)
    rw [hxe] at hsl
    have hle3 := hle.trans hle2
    obtain ⟨hN, hk1, hk2⟩ := hI.fin hle2 hsl
    have hok := hI.ok
    clear hI hsl
    (repeat' (first | refine X.rq ?_ | (refine X.rc ?_ ?_ <;> intro hc <;> first | (exfalso; omega) | skip)))
    refine K.l_range 1 rfl rfl rfl rfl (fun R => ?_)
    (repeat' (first | refine X.rq ?_ | (refine X.rc ?_ ?_ <;> intro hc <;> first | (exfalso; omega) | skip)))
    refine K.WC.sel [3] rfl ?_
    refine K.WC.perm (K.pp [0, 1] rfl) ?_
    refine K.c_loop (σ := VrS) (fun s => [(3, .pointer (some ⟨BN, 0, none⟩)), (6, .int .u32 s.most), (31, .pointer (some ⟨R, 0, none⟩))]) (fun _ => h2)
      (fun s => iterA R M c s.seen c :: mapA M .u32 m c :: blk BN 68 [.map (some M)] :: rowsA a k l :: tabB BT a k l :: F)
      (fun s => s.seen.Nodup ∧ (∀ x ∈ s.seen, x ∈ m.map (·.2.2)) ∧ s.most < 4294967296 ∧ (s.most = 0 ∨ ReachW w s.most s.most) ∧ ∀ e ∈ m, e.2.2 ∈ s.seen → ∀ r : Nat, e.1 = (r : Int) → ReachW w r r → r ≤ s.most) (fun s => m.length - s.seen.length) ⟨[], 0⟩
      ⟨.nil, (fun x hx => by cases hx), by dsimp only; omega, .inl rfl, fun e _ hx => by cases hx⟩ (by repeat (first | exact K.Sub.nil _ | refine K.Sub.cons rfl ?_)) rfl rfl ?_
    rintro ⟨seen, most⟩ ⟨hnd, hsub, hmb, hring, hmost⟩ KL hKL
    dsimp only at hnd hsub hmb hring hmost ⊢
    have hsl : seen.length < m.length ∨ ∀ e ∈ m, e.2.2 ∈ seen := by
      by_cases hc : ∀ e ∈ m, e.2.2 ∈ seen
      · exact .inr hc
      · refine .inl ?_
        obtain ⟨e, hc⟩ := Classical.not_forall.1 hc
        obtain ⟨he, hne⟩ := Classical.not_imp.1 hc
        have := nodup_le (l := e.2.2 :: seen) (m := m.map (·.2.2)) (List.nodup_cons.2 ⟨hne, hnd⟩) fun x hx => by
          rcases List.mem_cons.1 hx with rfl | hx
          · exact List.mem_map.2 ⟨e, he, rfl⟩
          · exact hsub x hx
        rw [List.length_map, List.length_cons] at this
        exact this
    (repeat' (first | refine X.rq ?_ | (refine X.rc ?_ ?_ <;> intro hc <;> first | (exfalso; omega) | skip)))
    refine K.l_next hok rfl rfl (fun hall => ?_) (fun e he hns => ?_)
    · (repeat' (first | refine X.rq ?_ | (refine X.rc ?_ ?_ <;> intro hc <;> first | (exfalso; omega) | skip)))
      refine K.AT.sel [0, 0, 0] rfl ?_
      refine K.done (by first | exact Or.inl rfl | exact Or.inr rfl) rfl (by first | exact K.Base.le.refl _ | assumption) (H' := [_, _]) rfl ⟨most, rfl, ⟨hring, fun r hr => ?_⟩, hmb, rfl⟩
      obtain ⟨x, hx⟩ := hr.first
      obtain ⟨e, he, h1⟩ := hk2 _ hx
      exact hmost e he (hall e he) r h1 hr
    · have hsl : seen.length < m.length := hsl.elim id fun hall => absurd (hall e he) hns
      obtain ⟨p, hp, hep⟩ := hk1 e he
      have hpb := (hwb p hp).1
      generalize hr : p.1 = r at hep hpb
      have hnd2 : (seen ++ [e.2.2]).Nodup := List.nodup_append.2 ⟨hnd, List.pairwise_singleton _ _, fun x hx y hy => by
        rw [List.mem_singleton.1 hy]
        exact fun e2 => hns (by rw [← e2]; exact hx)⟩
      have hsub2 : ∀ x ∈ seen ++ [e.2.2], x ∈ m.map (·.2.2) := fun x hx => by
        rcases List.mem_append.1 hx with hx | hx
        · exact hsub x hx
        · rw [List.mem_singleton.1 hx]; exact List.mem_map.2 ⟨e, he, rfl⟩
      (repeat' (first | refine X.rq ?_ | (refine X.rc ?_ ?_ <;> intro hc <;> first | (exfalso; omega) | skip)))
      refine K.s_pure (K.p_entry 0 1 rfl rfl hok he rfl) rfl ?_
      rw [hep]
      (repeat' (first | refine X.rq ?_ | (refine X.rc ?_ ?_ <;> intro hc <;> first | (exfalso; omega) | skip)))
      refine K.l_makeMap (kk := .u32) rfl (fun SM => ?_)
      refine K.l_alloc (Fx.zr rfl) rfl rfl (fun BS => ?_)
      refine X.sto ?_
      simp only [List.set_cons_zero, List.set_cons_succ, List.eraseIdx_cons_zero, List.eraseIdx_cons_succ, List.cons_append, List.nil_append]
      (repeat' (first | refine X.rq ?_ | (refine X.rc ?_ ?_ <;> intro hc <;> first | (exfalso; omega) | skip)))
      refine K.l_alloc (Fx.zr rfl) rfl rfl (fun BF => ?_)
      (repeat' (first | refine X.rq ?_ | (refine X.rc ?_ ?_ <;> intro hc <;> first | (exfalso; omega) | skip)))
      refine K.s_pure (K.p_makeFunc rfl) rfl ?_
      refine X.sto ?_
      simp only [List.set_cons_zero, List.set_cons_succ, List.eraseIdx_cons_zero, List.eraseIdx_cons_succ, List.cons_append, List.nil_append]
      (repeat' (first | refine X.rq ?_ | (refine X.rc ?_ ?_ <;> intro hc <;> first | (exfalso; omega) | skip)))
      refine K.l_callF (vals := [.int .u32 r]) (Fx.cal rfl) rfl rfl (Follow h2 BN M BS SM BF m c w hN hwb (by omega) (cntS w []) [] 0 [] r MapOk.nil (fun v => by rw [if_neg List.not_mem_nil]; rfl) (Nat.le_refl _)) (K.pp [5, 4, 1, 1, 0] rfl) rfl ?_
      rintro u h' H' - ⟨e2, rfl, s', cs', S', hm', hs', hfp, rfl⟩
      obtain rfl := e2.symm
      simp only [List.nil_append, List.cons_append]
      have hlk := hs' r
      have hrr := hfp.ring
      have hmost2 : ∀ mo : Nat, most ≤ mo → (ReachW w r r → r ≤ mo) → ∀ e2 ∈ m, e2.2.2 ∈ seen ++ [e.2.2] → ∀ r2 : Nat, e2.1 = (r2 : Int) → ReachW w r2 r2 → r2 ≤ mo := fun mo h1 h3 e2 he2 hx r2 hr2 hre => by
        rcases List.mem_append.1 hx with hx | hx
        · exact Nat.le_trans (hmost e2 he2 hx r2 hr2 hre) h1
        · have h4 : e2 = e := by
            obtain ⟨i, hi⟩ := List.mem_iff_getElem?.1 he2
            obtain ⟨i2, hi2⟩ := List.mem_iff_getElem?.1 he
            have hb1 : (m.map (·.2.2))[i]? = some e.2.2 := by rw [List.getElem?_map, hi, ← List.mem_singleton.1 hx]; rfl
            have hb2 : (m.map (·.2.2))[i2]? = some e.2.2 := by rw [List.getElem?_map, hi2]; rfl
            have : i = i2 := by
              obtain ⟨l1, l2⟩ := List.getElem?_eq_some_iff.1 hb1
              obtain ⟨l3, l4⟩ := List.getElem?_eq_some_iff.1 hb2
              rcases Nat.lt_trichotomy i i2 with h9 | h9 | h9
              · exact absurd (l2.trans l4.symm) (List.pairwise_iff_getElem.1 hok.born i i2 l1 l3 h9)
              · exact h9
              · exact absurd (l4.trans l2.symm) (List.pairwise_iff_getElem.1 hok.born i2 i l3 l1 h9)
            subst this
            rw [hi] at hi2
            exact Option.some.inj hi2
          subst h4
          rw [hep] at hr2
          obtain rfl : r = r2 := by omega
          exact h3 hre
      by_cases hrS : r ∈ S'
      · rw [if_pos hrS] at hlk
        (repeat' (first | refine X.rq ?_ | (refine X.rc ?_ ?_ <;> intro hc <;> first | (exfalso; omega) | skip)))
        refine K.s_pure (K.p_lookup (v := .int .i64 1) 3 rfl rfl rfl rfl rfl rfl (by rw [hlk]; rfl)) rfl ?_
        (repeat' (first | refine X.rq ?_ | (refine X.rc ?_ ?_ <;> intro hc <;> first | (exfalso; omega) | skip)))
        rw [show max (most : Int) (r : Int) = ((max most r : Nat) : Int) by omega]
        refine K.AT.sel [2, 2, 2] rfl ?_
        refine K.AT.perm (K.pp [2, 1] rfl) ?_
        refine K.a_round hKL ⟨seen ++ [e.2.2], max most r⟩ ⟨hnd2, hsub2, by dsimp only; omega, ?_, hmost2 _ (by dsimp only; omega) (fun _ => by dsimp only; omega)⟩ (by repeat (first | exact K.Sub.nil _ | refine K.Sub.cons rfl ?_)) rfl rfl (by dsimp only; rw [List.length_append, List.length_singleton]; omega)
        dsimp only
        by_cases hmr : most ≤ r
        · rw [Nat.max_eq_right hmr]
          exact .inr (hrr.1 hrS)
        · rw [Nat.max_eq_left (by omega)]
          exact hring
      · rw [if_neg hrS] at hlk
        (repeat' (first | refine X.rq ?_ | (refine X.rc ?_ ?_ <;> intro hc <;> first | (exfalso; omega) | skip)))
        refine K.s_pure (K.p_lookup (v := .int .i64 0) 3 rfl rfl rfl rfl rfl rfl (by rw [hlk]; rfl)) rfl ?_
        (repeat' (first | refine X.rq ?_ | (refine X.rc ?_ ?_ <;> intro hc <;> first | (exfalso; omega) | skip)))
        all_goals first | (exfalso; simp_all; done) | skip
        refine K.AT.sel [2, 2, 2] rfl ?_
        refine K.AT.perm (K.pp [2, 1] rfl) ?_
        refine K.a_round hKL ⟨seen ++ [e.2.2], most⟩ ⟨hnd2, hsub2, hmb, hring, hmost2 _ (Nat.le_refl _) (fun h1 => absurd (hrr.2 h1) hrS)⟩ (by repeat (first | exact K.Sub.nil _ | refine K.Sub.cons rfl ?_)) rfl rfl (by dsimp only; rw [List.length_append, List.length_singleton]; omega)
end Go.Proofs.YtcpdfajaggbjlaaDoor.Lk
