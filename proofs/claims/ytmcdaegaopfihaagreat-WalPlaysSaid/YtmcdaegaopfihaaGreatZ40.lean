/-
  Texts joined: Ad Sv Sx. Conditions: each theorem's own.
-/
import Derived.Test.YtmcdaegaopfihaaGreatZ10
import Derived.Test.YtmcdaegaopfihaaGreatZ38
import Derived.Test.YtmcdaegaopfihaaGreatZ37
import Derived.Test.YtmcdaegaopfihaaGreatZ23
section
namespace Go.Proofs.YtmcdaegaopfihaaGreat.Wl
open Go Go.K Go.Proofs Go.Proofs.YtmcdaegaopfihaaGreat Go.Proofs.YtmcdaegaopfihaaGreat.Pg Go.Proofs.YtmcdaegaopfihaaGreat.Rc
set_option linter.unusedVariables false
set_option linter.unusedSimpArgs false
set_option maxRecDepth 10000

def LongP (h : Base) (G : Prop) (u : Value) (h' : Base) (H' : List Asrt) : Prop := h' = h ∧ H' = [] ∧ ∃ b, u = .bool b ∧ (b = false → G)
structure FewR (r : Recd) : Prop where
 img : r.images.length ≤ 66000
 liv : r.lives.length ≤ 66000
 dir : r.dirty.length ≤ 66000
 dat : r.op.data.length ≤ 66000
theorem FewR.small {r : Recd} (h : FewR r) : smallR r := ⟨h.img, h.liv, by have := h.dir; omega, h.dat⟩
structure LoS where
 k : Nat
 n : Nat
set_option maxHeartbeats 8000000 in
theorem LLong (h : Base) (v : Value) (l : List PAct) (hv : ActsV h v l) (hl : l.length ≤ 9223372036854775807) :
  Tr Tryz.prog 6 [v] h [] (LongP h (l.length ≤ 200 ∧ ∀ x ∈ l, FewR x.r)) := by
 obtain ⟨es, hv, hel, hr⟩ := hv
 obtain ⟨ao, ca, rfl⟩ := hv.len
 rw [hel] at hv ⊢
 refine K.enter Tryz.func6 rfl (Nat.le_of_ble_eq_true rfl) (fun F => ?_)
 simp only [List.nil_append]
 (repeat' first | refine X.rq ?_ | refine X.rc ?_ ?_ <;> intro hc <;> try omega)
 refine K.c_loop (σ := Nat) (fun j => [(0, .slice ao l.length ca), (3, .int .i64 j)]) (fun _ => h) (fun _ => F)
  (fun j => j ≤ l.length ∧ j ≤ 201 ∧ ∀ _ : Unit, ∀ (i : Nat) x, i < j → l[i]? = some x → FewR x.r) (fun j => l.length - j) 0 ⟨Nat.zero_le _, Nat.zero_le _, fun _ i x hi => by omega⟩ (by repeat (first | exact K.Sub.nil _ | refine K.Sub.cons rfl ?_)) rfl rfl ?_
 rintro j ⟨hj, hj3, hyes⟩ KL hKL
 by_cases hjl : j < l.length ∧ j ≤ 200
 ·obtain ⟨hjl, hj200⟩ := hjl
  have hc1 : es[j]? = some (es[j]'(by omega)) := List.getElem?_eq_getElem (by omega)
  have hc0 : es[((j : Nat) : Int).toNat]? = some (es[j]'(by omega)) := by rw [Int.toNat_natCast]; exact hc1
  have he1 : l[j]? = some (l[j]'(by omega)) := List.getElem?_eq_getElem hjl
  generalize es[j]'(by omega) = c at hc0 hc1
  generalize l[j]'(by omega) = x at he1
  obtain ⟨_, _, ⟨q1, q2, q3, q4, q5⟩, cs, rfl, hx⟩ := hr j c x hc1 he1
  obtain ⟨what, r, xn⟩ := x
  dsimp only at q1 q2 q3 q4 q5 hx
  obtain ⟨hw, ad, ai, al, ay, cd, ci, cl, cy, rfl, hb, ⟨es2, hi1, hi2, hi3⟩, hl4, hd2⟩ := hx.cells
  clear hx hb hl4 hd2 hw
  (repeat' first | refine X.rq ?_ | refine X.rc ?_ ?_ <;> intro hc <;> try omega)
  refine K.s_pureE (K.p_indexL hv (Fx.und rfl) (Fx.sz rfl) rfl rfl (by omega) hc0) rfl ?_
  rintro v2 ⟨b, o, rfl, hcel⟩
  have hcr : Cels h [] b (o + 1) (cR r (.slice ad r.op.data.length cd) (.slice ai r.images.length ci) (.slice al r.lives.length cl) (.slice ay r.dirty.length cy)) := Cels.take 15 (Cels.drop 1 (by simp [cR]) hcel)
  (repeat' first | refine X.rq ?_ | refine X.rc ?_ ?_ <;> intro hc <;> try omega)
  refine K.s_pure (K.p_loadM (vs := cR r (.slice ad r.op.data.length cd) (.slice ai r.images.length ci) (.slice al r.lives.length cl) (.slice ay r.dirty.length cy)) (Fx.agg rfl) rfl (Cels.up hcr) (Fx.sz rfl) rfl) rfl ?_
  clear hcr hcel
  (repeat' first | refine X.rq ?_ | refine X.rc ?_ ?_ <;> intro hc <;> try omega)
  refine K.l_alloc (Fx.zr rfl) rfl rfl (fun B4 => ?_)
  refine X.stw ?_
  simp only [Go.K.nmz]
  (repeat' first | refine X.rq ?_ | refine X.rc ?_ ?_ <;> intro hc <;> try omega)
  obtain ⟨n0, hn0⟩ : ∃ n0, n0 = r.op.data.length + r.lives.length + r.dirty.length + r.images.length := ⟨_, rfl⟩
  rw [show (r.op.data.length : Int) + r.lives.length + r.dirty.length + r.images.length = (n0 : Int) by omega]
  refine K.c_loop (σ := LoS) (fun q => [(0, .slice ao l.length ca), (3, .int .i64 j), (4, .pointer (some ⟨B4, 0, none⟩)), (5, .int .i64 q.n), (6, .int .i64 q.k)]) (fun _ => h) (fun _ => blk B4 45 (cR r (.slice ad r.op.data.length cd) (.slice ai r.images.length ci) (.slice al r.lives.length cl) (.slice ay r.dirty.length cy)) :: F)
   (fun q => q.k ≤ r.images.length ∧ q.k ≤ 200 ∧ n0 ≤ q.n ∧ q.n ≤ n0 + q.k * 28428972647776256) (fun q => r.images.length - q.k) ⟨0, n0⟩ ⟨by dsimp only; omega, by dsimp only; omega, by dsimp only; omega, by dsimp only; omega⟩ (by repeat (first | exact K.Sub.nil _ | refine K.Sub.cons rfl ?_)) rfl rfl ?_
  rintro ⟨k, nn⟩ ⟨hk, hk2, hn1, hn2⟩ KM hKM
  dsimp only at hk hk2 hn1 hn2 ⊢
  by_cases hkl : k < r.images.length ∧ k < 200
  ·obtain ⟨hkl, hk200⟩ := hkl
   have hd1 : es2[k]? = some (es2[k]'(by omega)) := List.getElem?_eq_getElem (by omega)
   have hd0 : es2[((k : Nat) : Int).toNat]? = some (es2[k]'(by omega)) := by rw [Int.toNat_natCast]; exact hd1
   have hz1 : r.images[k]? = some (r.images[k]'hkl) := List.getElem?_eq_getElem hkl
   have q5 := q5 (r.images[k]'hkl) (List.getElem_mem hkl)
   generalize es2[k]'(by omega) = d at hd0 hd1
   generalize r.images[k]'hkl = m at hz1 q5
   obtain ⟨hpg, cs5, rfl, hwp, cv, rfl, es5, hv5, hel5, hr5⟩ := hi3 k d m hd1 hz1
   obtain ⟨q6, q7⟩ := q5
   obtain ⟨ao5, ca5, rfl⟩ := hv5.len
   clear hwp
   rw [hel5] at hv5
   (repeat' first | refine X.rq ?_ | refine X.rc ?_ ?_ <;> intro hc <;> try omega)
   refine K.s_pureE (K.p_indexL hi1 (Fx.und rfl) (Fx.sz rfl) rfl rfl (by omega) hd0) rfl ?_
   rintro v3 ⟨b3, o3, rfl, hcel3⟩
   have hq3 := (Cels.up (K := blk B4 45 (cR r (.slice ad r.op.data.length cd) (.slice ai r.images.length ci) (.slice al r.lives.length cl) (.slice ay r.dirty.length cy)) :: F) hcel3).2.2.2.2.1
   rw [hel5] at hq3
   (repeat' first | refine X.rq ?_ | refine X.rc ?_ ?_ <;> intro hc <;> try omega)
   refine K.c_loop (σ := LoS) (fun q => [(0, .slice ao l.length ca), (3, .int .i64 j), (4, .pointer (some ⟨B4, 0, none⟩)), (5, .int .i64 q.n), (6, .int .i64 k), (7, .int .i64 q.k)]) (fun _ => h) (fun _ => blk B4 45 (cR r (.slice ad r.op.data.length cd) (.slice ai r.images.length ci) (.slice al r.lives.length cl) (.slice ay r.dirty.length cy)) :: F)
    (fun q => q.k ≤ m.to.cells.length ∧ q.k ≤ 200 ∧ n0 ≤ q.n ∧ q.n ≤ nn + 4398046511104 + q.k * 140737488351232) (fun q => m.to.cells.length - q.k) ⟨0, nn + m.to.cells.length⟩ ⟨Nat.zero_le _, Nat.zero_le _, by dsimp only; omega, by dsimp only; omega⟩ (by repeat (first | exact K.Sub.nil _ | refine K.Sub.cons rfl ?_)) rfl rfl ?_
   rintro ⟨u, mm⟩ ⟨hu, hu2, hm1, hm2⟩ KN hKN
   dsimp only at hu hu2 hm1 hm2 ⊢
   by_cases hul : u < m.to.cells.length ∧ u < 200
   ·obtain ⟨hul, hu200⟩ := hul
    have hf1 : es5[u]? = some (es5[u]'(by omega)) := List.getElem?_eq_getElem (by omega)
    have hf0 : es5[((u : Nat) : Int).toNat]? = some (es5[u]'(by omega)) := by rw [Int.toNat_natCast]; exact hf1
    have hy1 : m.to.cells[u]? = some (m.to.cells[u]'hul) := List.getElem?_eq_getElem hul
    have q7 := q7 (m.to.cells[u]'hul) (List.getElem_mem hul)
    generalize es5[u]'(by omega) = f at hf0 hf1
    generalize m.to.cells[u]'hul = z at hy1 q7
    obtain ⟨_, hzl, ao6, ca6, rfl, _⟩ := hr5 u f z hf1 hy1
    (repeat' first | refine X.rq ?_ | refine X.rc ?_ ?_ <;> intro hc <;> try omega)
    refine K.s_pureE (K.p_indexL hi1 (Fx.und rfl) (Fx.sz rfl) rfl rfl (by omega) hd0) rfl ?_
    rintro v4 ⟨b4, o4, rfl, hcel4⟩
    have hq4 := (Cels.up (K := blk B4 45 (cR r (.slice ad r.op.data.length cd) (.slice ai r.images.length ci) (.slice al r.lives.length cl) (.slice ay r.dirty.length cy)) :: F) hcel4).2.2.2.2.1
    rw [hel5] at hq4
    (repeat' first | refine X.rq ?_ | refine X.rc ?_ ?_ <;> intro hc <;> try omega)
    refine K.s_pureE (K.p_indexL hi1 (Fx.und rfl) (Fx.sz rfl) rfl rfl (by omega) hd0) rfl ?_
    rintro v5 ⟨b5, o5, rfl, hcel5⟩
    have hq5 := (Cels.up (K := blk B4 45 (cR r (.slice ad r.op.data.length cd) (.slice ai r.images.length ci) (.slice al r.lives.length cl) (.slice ay r.dirty.length cy)) :: F) hcel5).2.2.2.2.1
    rw [hel5] at hq5
    (repeat' first | refine X.rq ?_ | refine X.rc ?_ ?_ <;> intro hc <;> try omega)
    refine K.s_pureE (K.p_indexL hv5 (Fx.und rfl) (Fx.sz rfl) rfl rfl (by omega) hf0) rfl ?_
    rintro v6 ⟨b6, o6, rfl, hcel6⟩
    have hq6 := (Cels.up (K := blk B4 45 (cR r (.slice ad r.op.data.length cd) (.slice ai r.images.length ci) (.slice al r.lives.length cl) (.slice ay r.dirty.length cy)) :: F) hcel6).2.2.1
    (repeat' first | refine X.rq ?_ | refine X.rc ?_ ?_ <;> intro hc <;> try omega)
    refine K.a_round hKN ⟨u + 1, mm + z.data.length⟩ ⟨by dsimp only; omega, by dsimp only; omega, by dsimp only; omega, by dsimp only; omega⟩ (by repeat (first | exact K.Sub.nil _ | refine K.Sub.cons rfl ?_)) rfl rfl (by dsimp only; omega)
   ·by_cases hul2 : u < m.to.cells.length
    all_goals
     (repeat' first | refine X.rq ?_ | refine X.rc ?_ ?_ <;> intro hc <;> try omega)
     all_goals try (exfalso; omega)
     all_goals try
      refine K.s_pureE (K.p_indexL hi1 (Fx.und rfl) (Fx.sz rfl) rfl rfl (by omega) hd0) rfl ?_
      rintro v4 ⟨b4, o4, rfl, hcel4⟩
      have hq4 := (Cels.up (K := blk B4 45 (cR r (.slice ad r.op.data.length cd) (.slice ai r.images.length ci) (.slice al r.lives.length cl) (.slice ay r.dirty.length cy)) :: F) hcel4).2.2.2.2.1
      rw [hel5] at hq4
     (repeat' first | refine X.rq ?_ | refine X.rc ?_ ?_ <;> intro hc <;> try omega)
     all_goals try (exfalso; omega)
     refine K.a_round hKM ⟨k + 1, mm⟩ ⟨by dsimp only; omega, by dsimp only; omega, by dsimp only; omega, by dsimp only; omega⟩ (by repeat (first | exact K.Sub.nil _ | refine K.Sub.cons rfl ?_)) rfl rfl (by dsimp only; omega)
  ·(repeat' first | refine X.rq ?_ | refine X.rc ?_ ?_ <;> intro hc <;> try omega)
   all_goals try (exfalso; omega)
   all_goals refine K.AT.drop ?_
   all_goals first
    | refine K.done (by first | exact Or.inl rfl | exact Or.inr rfl) rfl (by first | exact K.Base.le.refl _ | assumption) (H' := []) rfl ⟨rfl, rfl, true, rfl, fun e => by cases e⟩
    | skip
   all_goals
    refine K.a_round hKL (j + 1) ⟨by omega, by omega, fun _ i y hi h2 => ?_⟩ (by repeat (first | exact K.Sub.nil _ | refine K.Sub.cons rfl ?_)) rfl rfl (by omega)
    by_cases hij : i < j
    ·exact hyes () i y hij h2
    ·obtain rfl : i = j := by omega
     rw [he1] at h2; cases h2
     exact ⟨by dsimp only; omega, by dsimp only; omega, by dsimp only; omega, by dsimp only; omega⟩
 ·have hfin : ∀ _ : Unit, l.length ≤ 200 → l.length ≤ 200 ∧ ∀ x ∈ l, FewR x.r := fun _ hl => ⟨hl, fun x hx => by
   obtain ⟨m, hm, rfl⟩ := List.mem_iff_getElem.1 hx
   exact hyes () m _ (by omega) (List.getElem?_eq_getElem hm)⟩
  clear hyes
  (repeat' first | refine X.rq ?_ | refine X.rc ?_ ?_ <;> intro hc <;> try omega)
  all_goals
   refine K.done (by first | exact Or.inl rfl | exact Or.inr rfl) rfl (by first | exact K.Base.le.refl _ | assumption) (H' := []) rfl ⟨rfl, rfl, _, rfl, fun e => ?_⟩
   refine hfin () ?_
   simp only [decide_eq_false_iff_not, decide_eq_true_eq, reduceCtorEq] at e <;> omega
end Go.Proofs.YtmcdaegaopfihaaGreat.Wl
end

section
namespace Go.Proofs.YtmcdaegaopfihaaGreat.Wl
open Go Go.K Go.Proofs Go.Proofs.YtmcdaegaopfihaaGreat Go.Proofs.YtmcdaegaopfihaaGreat.Cc Go.Proofs.YtmcdaegaopfihaaGreat.Rc
set_option linter.unusedVariables false
set_option linter.unusedSimpArgs false
set_option maxRecDepth 10000

def bytesQ (rs : List Recd) : List UInt8 := rs.flatMap encN
def lenQ (rs : List Recd) : Nat := (bytesQ rs).length
def placesQ : Nat → List Recd → List (Recd × Nat)
 | _, [] => []
 | a, r :: rs => (z0 r, a) :: placesQ (a + (encN r).length) rs
def RightL (rs : List Recd) : Prop := ∀ r ∈ rs, mayR r = true ∧ wfX r
theorem bytes_cons (r : Recd) (rs : List Recd) : bytesQ (r :: rs) = encN r ++ bytesQ rs := List.flatMap_cons
theorem len_cons (r : Recd) (rs : List Recd) : lenQ (r :: rs) = (encN r).length + lenQ rs := by unfold lenQ; rw [bytes_cons, List.length_append]
theorem bytes_app (rs qs : List Recd) : bytesQ (rs ++ qs) = bytesQ rs ++ bytesQ qs := List.flatMap_append
theorem bytes_snoc (rs : List Recd) (r : Recd) : bytesQ (rs ++ [r]) = bytesQ rs ++ encN r := by rw [bytes_app, bytes_cons]; simp [bytesQ]
theorem len_snoc (rs : List Recd) (r : Recd) : lenQ (rs ++ [r]) = lenQ rs + (encN r).length := by unfold lenQ; rw [bytes_snoc, List.length_append]
theorem len_take_le (rs : List Recd) (m : Nat) : lenQ (rs.take m) ≤ lenQ rs := by
 have := bytes_app (rs.take m) (rs.drop m)
 rw [List.take_append_drop] at this
 unfold lenQ; rw [this, List.length_append]; omega
theorem bytes_take (rs : List Recd) (m : Nat) : (bytesQ rs).take (lenQ (rs.take m)) = bytesQ (rs.take m) := by
 have := bytes_app (rs.take m) (rs.drop m)
 rw [List.take_append_drop] at this
 rw [this]
 exact List.take_left
theorem RightL.take {rs : List Recd} (h : RightL rs) (m : Nat) : RightL (rs.take m) := fun r hr => h r (List.mem_of_mem_take hr)
theorem RightL.snoc {rs : List Recd} (h : RightL rs) {r : Recd} (hm : mayR r = true) (hw : wfX r) : RightL (rs ++ [r]) := fun x hx => by
 rcases List.mem_append.1 hx with hx | hx
 ·exact h x hx
 ·rw [List.mem_singleton.1 hx]; exact ⟨hm, hw⟩
theorem places_len : ∀ (rs : List Recd) (a : Nat), (placesQ a rs).length = rs.length
 | [], _ => rfl
 | r :: rs, a => by rw [placesQ, List.length_cons, places_len rs, List.length_cons]
theorem places_take : ∀ (rs : List Recd) (a m : Nat), placesQ a (rs.take m) = (placesQ a rs).take m
 | [], a, m => by simp [placesQ]
 | r :: rs, a, 0 => by simp [placesQ]
 | r :: rs, a, m + 1 => by rw [List.take_succ_cons, placesQ, placesQ, List.take_succ_cons, places_take rs]
theorem places_snoc : ∀ (rs : List Recd) (a : Nat) (r : Recd), placesQ a (rs ++ [r]) = placesQ a rs ++ [(z0 r, a + lenQ rs)]
 | [], a, r => rfl
 | x :: rs, a, r => by rw [List.cons_append, placesQ, placesQ, places_snoc rs, List.cons_append, len_cons, Nat.add_assoc]
theorem part_of : ∀ (rs : List Recd) (b : List UInt8) (a : Nat) (tail : List UInt8), RightL rs → b.drop a = bytesQ rs ++ tail → Dec tail zR 0 6 → Part b a (placesQ a rs) (a + lenQ rs) 0
 | [], b, a, tail, _, hb, ht => .none (by rw [hb]; exact ht)
 | r :: rs, b, a, tail, hr, hb, ht => by
  obtain ⟨hm, hw⟩ := hr r (List.mem_cons_self ..)
  rw [bytes_cons, List.append_assoc] at hb
  rw [placesQ, len_cons, ← Nat.add_assoc]
  refine .step (n := (encN r).length) (by rw [hb]; exact dec_enc hm hw _) (part_of rs b _ tail (fun x hx => hr x (List.mem_cons_of_mem _ hx)) ?_ ht)
  rw [← List.drop_drop, hb, List.drop_left]
theorem part_one {b : List UInt8} {a k k' : Nat} {os os' : List (Recd × Nat)} {e e' : Int} (h : Part b a os k e) : Part b a os' k' e' → os = os' ∧ k = k' ∧ e = e' := by
 induction h generalizing os' k' e' with
 | none hd =>
  intro h'
  cases h' with
  | none _ => exact ⟨rfl, rfl, rfl⟩
  | err hd' h1 h2 => exact absurd (dec_one hd hd').2.2.symm h2
  | step hd' _ => have := (dec_one hd hd').2.2; omega
 | err hd h1 h2 =>
  intro h'
  cases h' with
  | none hd' => exact absurd (dec_one hd hd').2.2 h2
  | err hd' _ _ => exact ⟨rfl, rfl, (dec_one hd hd').2.2⟩
  | step hd' _ => exact absurd (dec_one hd hd').2.2 h1
 | step hd hp ih =>
  intro h'
  cases h' with
  | none hd' => have := (dec_one hd hd').2.2; omega
  | err hd' h1 h2 => exact absurd (dec_one hd hd').2.2.symm h1
  | step hd' hp' =>
   obtain ⟨rfl, rfl, -⟩ := dec_one hd hd'
   obtain ⟨rfl, rfl, rfl⟩ := ih hp'
   exact ⟨rfl, rfl, rfl⟩
theorem dec_nil : Dec [] zR 0 6 := .inl ⟨by decide, rfl, rfl, rfl⟩
theorem cut_at : ∀ (rs : List Recd) (t : Nat), RightL rs → ∃ m tail, m ≤ rs.length ∧ (bytesQ rs).take t = bytesQ (rs.take m) ++ tail ∧ Dec tail zR 0 6 ∧ ∀ m', m' ≤ rs.length → lenQ (rs.take m') ≤ t → m' ≤ m
 | [], t, _ => ⟨0, [], Nat.le_refl _, by simp [bytesQ], dec_nil, fun m' h _ => h⟩
 | r :: rs, t, hr => by
  obtain ⟨hm, hw⟩ := hr r (List.mem_cons_self ..)
  by_cases ht : t < (encN r).length
  ·refine ⟨0, (encN r).take t, Nat.zero_le _, ?_, dec_cut hm ht, fun m' h1 h2 => ?_⟩
   ·rw [bytes_cons, List.take_append_of_le_length (by omega)]; simp [bytesQ]
   ·cases m' with
    | zero => exact Nat.le_refl _
    | succ j => rw [List.take_succ_cons, len_cons] at h2; omega
  ·obtain ⟨m, tail, h1, h2, h3, h4⟩ := cut_at rs (t - (encN r).length) fun x hx => hr x (List.mem_cons_of_mem _ hx)
   refine ⟨m + 1, tail, by rw [List.length_cons]; omega, ?_, h3, fun m' g1 g2 => ?_⟩
   ·rw [bytes_cons, List.take_append, List.take_of_length_le (by omega), h2, List.take_succ_cons, bytes_cons, List.append_assoc]
   ·cases m' with
    | zero => exact Nat.zero_le _
    | succ j =>
     rw [List.take_succ_cons, len_cons] at g2
     rw [List.length_cons] at g1
     have := h4 j (by omega) (by omega)
     omega
theorem part_take (rs : List Recd) (t : Nat) (hr : RightL rs) : ∃ m, m ≤ rs.length ∧ lenQ (rs.take m) ≤ t ∧ Part ((bytesQ rs).take t) 0 (placesQ 0 (rs.take m)) (lenQ (rs.take m)) 0 ∧ ∀ m', m' ≤ rs.length → lenQ (rs.take m') ≤ t → m' ≤ m := by
 obtain ⟨m, tail, h1, h2, h3, h4⟩ := cut_at rs t hr
 refine ⟨m, h1, ?_, ?_, h4⟩
 ·have := congrArg List.length h2
  rw [List.length_append, List.length_take] at this
  unfold lenQ; omega
 ·have := part_of (rs.take m) ((bytesQ rs).take t) 0 tail (hr.take m) (by rw [List.drop_zero]; exact h2) h3
  rwa [Nat.zero_add] at this
def startsQ (base : Nat) (rs : List Recd) : List Nat := stsQ base (placesQ 0 rs)
theorem starts_len (base : Nat) (rs : List Recd) : (startsQ base rs).length = rs.length := by unfold startsQ stsQ; rw [List.length_map, places_len]
theorem starts_take (base : Nat) (rs : List Recd) (m : Nat) : startsQ base (rs.take m) = (startsQ base rs).take m := by unfold startsQ stsQ; rw [places_take, List.map_take]
theorem starts_snoc (base : Nat) (rs : List Recd) (r : Recd) : startsQ base (rs ++ [r]) = startsQ base rs ++ [base + lenQ rs] := by unfold startsQ stsQ; rw [places_snoc, List.map_append]; simp
theorem starts_rise (base : Nat) (rs : List Recd) (hr : RightL rs) : (startsQ base rs).Pairwise (· < ·) ∧ (∀ x ∈ startsQ base rs, base ≤ x ∧ x < base + lenQ rs) ∧ rs.length * 3 ≤ lenQ rs := by
 have := sts_rise (base := base) (part_of rs (bytesQ rs) 0 [] hr (by rw [List.drop_zero, List.append_nil]) dec_nil)
 obtain ⟨_, a, b, _, c⟩ := this
 rw [Nat.zero_add] at b c
 rw [places_len] at c
 exact ⟨a, fun x hx => by have := b x hx; omega, by omega⟩
theorem starts_below (base : Nat) : ∀ (rs : List Recd) (m j : Nat), RightL rs → m ≤ rs.length → j < rs.length → ∀ x, (startsQ base rs)[j]? = some x → (x < base + lenQ (rs.take m) ↔ j < m) := by
 intro rs m j hr hm hj x hx
 have h1 := (starts_rise base (rs.take m) (hr.take m)).2.1
 rw [starts_take] at h1
 constructor
 ·intro hlt
  refine Decidable.byContradiction fun hc => ?_
  have h2 : (startsQ base rs)[j]? = some (base + lenQ (rs.take j)) := by
   have e : rs = rs.take j ++ rs[j] :: rs.drop (j + 1) := by rw [List.getElem_cons_drop, List.take_append_drop]
   have := starts_snoc base (rs.take j) rs[j]
   rw [show rs.take j ++ [rs[j]] = rs.take (j + 1) by rw [List.take_add_one, List.getElem?_eq_getElem hj]; rfl, starts_take] at this
   have h3 : ((startsQ base rs).take (j + 1))[j]? = some (base + lenQ (rs.take j)) := by
    rw [this, List.getElem?_append_right (by rw [starts_len, List.length_take]; omega), starts_len, List.length_take, Nat.min_eq_left (by omega), Nat.sub_self]; rfl
   rwa [List.getElem?_take_of_lt (by omega)] at h3
  rw [hx] at h2
  cases h2
  have : rs.take m = (rs.take j).take m := by rw [List.take_take, Nat.min_eq_left (by omega)]
  have h5 := len_take_le (rs.take j) m
  rw [← this] at h5
  omega
 ·intro hlt
  exact (h1 x (List.mem_of_getElem? (i := j) (by rw [List.getElem?_take_of_lt hlt]; exact hx))).2
end Go.Proofs.YtmcdaegaopfihaaGreat.Wl
end

section
namespace Go.Proofs.YtmcdaegaopfihaaGreat.Wl
open Go Go.K Go.Proofs Go.Proofs.YtmcdaegaopfihaaGreat Go.Proofs.YtmcdaegaopfihaaGreat.Cc
set_option linter.unusedVariables false
set_option linter.unusedSimpArgs false
set_option maxRecDepth 10000

theorem used_sec (l : List UInt8) (i : Nat) : usedQ (secB l i) = (partB l i).length := by
 have h := part_le l i
 unfold usedQ secB padS
 rw [List.append_assoc, List.take_append_of_le_length (by rw [lebs_length]; omega), List.take_of_length_le (by rw [lebs_length]; omega)]
 exact leNum_lebs 2 _ (by omega)
theorem read_sec (l : List UInt8) (i : Nat) : ((secB l i).drop 2).take (usedQ (secB l i)) = partB l i := by
 rw [used_sec]
 unfold secB padS
 rw [List.append_assoc, List.drop_append_of_le_length (by rw [lebs_length]; omega), List.drop_of_length_le (by rw [lebs_length]; omega), List.nil_append, List.take_left]
theorem sec_zs {l : List UInt8} {i : Nat} (h : l.length ≤ i * 510) : secB l i = zs := by
 have : partB l i = [] := by unfold partB; rw [List.drop_of_length_le h]; rfl
 unfold secB
 rw [this]
 decide
theorem part_same {l l' : List UInt8} {i : Nat} (h : partB l i = partB l' i) : secB l i = secB l' i := by unfold secB; rw [h]
def SecOk (S : List UInt8) (lo i : Nat) (s : Sec) : Prop := ∃ t, lo ≤ t ∧ t ≤ S.length ∧ s = secB (S.take t) i
theorem part_take' (S : List UInt8) (t i : Nat) : partB (S.take t) i = (S.drop (i * 510)).take (min 510 (t - i * 510)) := by
 unfold partB
 rw [List.drop_take, List.take_take]
theorem take_part (S : List UInt8) {t i : Nat} (h : i * 510 ≤ t) : S.take (i * 510) ++ partB (S.take t) i = S.take (min t ((i + 1) * 510)) := by
 rw [part_take']
 rw [show min t ((i + 1) * 510) = i * 510 + min 510 (t - i * 510) by omega, List.take_add]
theorem ra_sem {S : List UInt8} {lo n : Nat} (hS : S.length ≤ n * 510) (hlo : lo ≤ S.length) : ∀ (k i : Nat) (l : List Sec) (st : List UInt8) (en : Bool) (D : Dk), i + k = n → l.length = i → n < D.kept.length → (∀ j, i ≤ j → j < n → SecOk S lo j (V D (1 + j))) →
    ((en = false ∧ st = S.take (i * 510) ∧ i * 510 ≤ S.length) ∨ (en = true ∧ ∃ t, lo ≤ t ∧ t ≤ S.length ∧ st = S.take t)) →
    (raQ k i l st en D).2.kept = D.kept ∧ (raQ k i l st en D).2.cache = D.cache ∧
    ((∃ l' t, (raQ k i l st en D).1 = .ok (l', S.take t) ∧ lo ≤ t ∧ t ≤ S.length ∧ l'.length = n ∧ (∀ j, j < i → l'[j]? = l[j]?) ∧ (∀ j, i ≤ j → j < n → l'[j]? = some (V D (1 + j))) ∧ (NoTrip D → NoTrip (raQ k i l st en D).2)) ∨
     ((raQ k i l st en D).1 = .error 8 ∧ (raQ k i l st en D).2.dark = true ∧ ¬ NoTrip D))
  | 0, i, l, st, en, D, hk, hl, hn, hs, hst => by
    rw [raQ]
    refine ⟨rfl, rfl, .inl ?_⟩
    rcases hst with ⟨_, h1, h2⟩ | ⟨_, t, h1, h2, h3⟩
    · refine ⟨l, S.length, ?_, hlo, Nat.le_refl _, by omega, fun j _ => rfl, fun j h1 h2 => by omega, id⟩
      rw [h1, List.take_of_length_le (by omega), List.take_length]
    · exact ⟨l, t, by rw [h3], h1, h2, by omega, fun j _ => rfl, fun j h1 h2 => by omega, id⟩
  | k + 1, i, l, st, en, D, hk, hl, hn, hs, hst => by
    obtain ⟨r1, r2, r3⟩ := read_sem (D := D) (a := 1 + i) (by omega)
    rw [raQ]
    cases hq : readQ D ((1 + i : Nat) : Int) with
    | mk x D1 =>
      rw [hq] at r1 r2 r3
      dsimp only at r1 r2 r3
      rcases r3 with ⟨rfl, r3⟩ | ⟨rfl, r3, r4⟩
      · dsimp only
        obtain ⟨t, t1, t2, t3⟩ := hs i (Nat.le_refl _) (by omega)
        have hu : usedQ (V D (1 + i)) = (partB (S.take t) i).length := by rw [t3, used_sec]
        have hrd : ((V D (1 + i)).drop 2).take (usedQ (V D (1 + i))) = partB (S.take t) i := by rw [t3, read_sec]
        have hpl := part_le (S.take t) i
        rw [if_neg (by omega), hrd, hu]
        have hlen : (partB (S.take t) i).length = min 510 (t - i * 510) := by
          rw [part_take', List.length_take, List.length_drop]; omega
        have hst' : ((en || decide ((partB (S.take t) i).length < 510)) = false ∧ (if en = true then st else st ++ partB (S.take t) i) = S.take ((i + 1) * 510) ∧ (i + 1) * 510 ≤ S.length) ∨ ((en || decide ((partB (S.take t) i).length < 510)) = true ∧ ∃ t', lo ≤ t' ∧ t' ≤ S.length ∧ (if en = true then st else st ++ partB (S.take t) i) = S.take t') := by
          rcases hst with ⟨h0, h1, h2⟩ | ⟨h0, h1⟩
          · rw [h0, if_neg (by decide), h1, Bool.false_or]
            by_cases hf : (partB (S.take t) i).length < 510
            · refine .inr ⟨decide_eq_true hf, ?_⟩
              by_cases ht : i * 510 ≤ t
              · exact ⟨min t ((i + 1) * 510), by omega, by omega, take_part S ht⟩
              · have h3 : partB (S.take t) i = [] := List.eq_nil_of_length_eq_zero (by omega)
                exact ⟨i * 510, by omega, h2, by rw [h3, List.append_nil]⟩
            · refine .inl ⟨decide_eq_false hf, ?_, by omega⟩
              rw [take_part S (by omega)]
              congr 1; omega
          · rw [h0, if_pos rfl]
            exact .inr ⟨rfl, h1⟩
        obtain ⟨a1, a2, a3⟩ := ra_sem hS hlo k (i + 1) (l ++ [V D (1 + i)]) _ _ D1 (by omega) (by rw [List.length_append, List.length_singleton]; omega) (by rw [r1]; exact hn) (fun j h1 h2 => by rw [V.of r1 r2]; exact hs j (by omega) h2) hst'
        refine ⟨a1.trans r1, a2.trans r2, ?_⟩
        rcases a3 with ⟨l', t', b1, b2, b3, b4, b5, b6, b7⟩ | ⟨b1, b2, b3⟩
        · refine .inl ⟨l', t', b1, b2, b3, b4, fun j hj => ?_, fun j h1 h2 => ?_, fun hn => b7 (r3 hn)⟩
          · rw [b5 j (by omega), List.getElem?_append_left (by omega)]
          · by_cases hji : j = i
            · subst hji
              rw [b5 j (by omega), List.getElem?_append_right (by omega), hl, Nat.sub_self]; rfl
            · rw [b6 j (by omega) h2, V.of r1 r2]
        · exact .inr ⟨b1, b2, fun hn => b3 (r3 hn)⟩
      · exact ⟨r1, r2, .inr ⟨rfl, r3, r4⟩⟩
theorem mend_sem (P : List UInt8) : ∀ (old : List Sec) (i : Nat) (D : Dk), 1 + i + old.length ≤ D.kept.length → (∀ (j : Nat) s, old[j]? = some s → V D (1 + i + j) = s) →
  Pow D (mendQ P old i D) ∧ (mendQ P old i D).2.kept.length = D.kept.length ∧ (∀ j s, Cand (mendQ P old i D).2 j s → Cand D j s ∨ (1 + i ≤ j ∧ j < 1 + i + old.length ∧ s = secB P (j - 1))) ∧
  ((mendQ P old i D).1 = 0 → (mendQ P old i D).2.cache = [] ∧ ∀ j, j < D.kept.length → V (mendQ P old i D).2 j = if 1 + i ≤ j ∧ j < 1 + i + old.length then secB P (j - 1) else V D j)
 | [], i, D, hl, ho => by
  rw [mendQ]
  by_cases hc : 0 < D.cache.length
  ·rw [if_pos hc]
   obtain ⟨a, b⟩ := sync_sem D
   refine ⟨a, ?_, fun j s h => .inl (sync_cand h), fun e => ⟨?_, fun j hj => ?_⟩⟩
   ·rcases b with ⟨_, h, _⟩ | ⟨_, h, _⟩
    ·rw [h, setL_len]
    ·rw [h]
   ·rcases b with ⟨_, _, h⟩ | ⟨h, _, _⟩
    ·exact h
    ·omega
   ·rw [sync_view hj, if_neg (by rw [List.length_nil]; omega)]
  ·rw [if_neg hc]
   refine ⟨⟨.inl rfl, fun h => ⟨rfl, h⟩⟩, rfl, fun j s h => .inl h, fun _ => ⟨List.eq_nil_of_length_eq_zero (by show D.cache.length = 0; omega), fun j hj => ?_⟩⟩
   rw [if_neg (by rw [List.length_nil]; omega)]
 | o :: r, i, D, hl, ho => by
  rw [List.length_cons] at hl ⊢
  have h0 := ho 0 o rfl
  rw [Nat.add_zero] at h0
  rw [mendQ]
  by_cases he : secB P i = o
  ·rw [if_pos he]
   obtain ⟨a, b, c, d⟩ := mend_sem P r (i + 1) D (by omega) (fun j s h => by rw [show 1 + (i + 1) + j = 1 + i + (j + 1) by omega]; exact ho (j + 1) s h)
   refine ⟨a, b, fun j s h => ?_, fun e => ⟨(d e).1, fun j hj => ?_⟩⟩
   ·rcases c j s h with h | ⟨x, y, z⟩
    ·exact .inl h
    ·exact .inr ⟨by omega, by omega, z⟩
   ·rw [(d e).2 j hj]
    by_cases h1 : 1 + (i + 1) ≤ j ∧ j < 1 + (i + 1) + r.length
    ·rw [if_pos h1, if_pos (by omega)]
    ·rw [if_neg h1]
     by_cases h2 : 1 + i ≤ j ∧ j < 1 + i + (r.length + 1)
     ·obtain rfl : j = 1 + i := by omega
      rw [if_pos h2, h0, ← he, Nat.add_sub_cancel_left]
     ·rw [if_neg h2]
  ·rw [if_neg he]
   have hi : 1 + i < D.kept.length := by omega
   obtain ⟨hp, hk, hc⟩ := write_sem hi (sec_len P i)
   by_cases hw : (writeQ D ((1 + i : Nat) : Int) (secB P i)).1 = 0
   ·rw [if_neg (by omega)]
    have hv := write_view hi (sec_len P i) hw
    obtain ⟨a, b, c, d⟩ := mend_sem P r (i + 1) (writeQ D ((1 + i : Nat) : Int) (secB P i)).2 (by rw [hk]; omega) (fun j s h => by
     rw [hv, if_neg (by omega), show 1 + (i + 1) + j = 1 + i + (j + 1) by omega]; exact ho (j + 1) s h)
    refine ⟨hp.trans a, b.trans (by rw [hk]), fun j s h => ?_, fun e => ⟨(d e).1, fun j hj => ?_⟩⟩
    ·rcases c j s h with h | ⟨x, y, z⟩
     ·rcases write_cand hi (sec_len P i) h with h | ⟨rfl, rfl⟩
      ·exact .inl h
      ·exact .inr ⟨Nat.le_refl _, by omega, by rw [Nat.add_sub_cancel_left]⟩
     ·exact .inr ⟨by omega, by omega, z⟩
    ·rw [(d e).2 j (by rw [hk]; exact hj)]
     by_cases h1 : 1 + (i + 1) ≤ j ∧ j < 1 + (i + 1) + r.length
     ·rw [if_pos h1, if_pos (by omega)]
     ·rw [if_neg h1, hv]
      by_cases h2 : 1 + i = j
      ·subst h2; rw [if_pos rfl, if_pos (by omega), Nat.add_sub_cancel_left]
      ·rw [if_neg h2, if_neg (by omega)]
   ·rw [if_pos hw]
    refine ⟨hp, by rw [hk], fun j s h => ?_, fun e => absurd e hw⟩
    rcases write_cand hi (sec_len P i) h with h | ⟨rfl, rfl⟩
    ·exact .inl h
    ·exact .inr ⟨Nat.le_refl _, by omega, by rw [Nat.add_sub_cancel_left]⟩
theorem seg {a x y : List UInt8} {k m : Nat} (hk : a.length = k) (hm : x.length = m) : ((a ++ (x ++ y)).drop k).take m = x := by
 subst hk hm
 rw [List.drop_left, List.take_left]
theorem rd_master {m : Mas} (hm : MasOk m) : (masterB m).take 8 = magic ∧ rdMas (masterB m) = m := by
 obtain ⟨n, base, check, kept, wiped⟩ := m
 have h1 := hm.n
 have h2 := hm.base
 have h3 := hm.check
 have h4 := hm.kept
 dsimp only at h1 h2 h3 h4
 have hmg : magic.length = 8 := rfl
 obtain ⟨tl, htl, ht1⟩ : ∃ tl, masterB ⟨n, base, check, kept, wiped⟩ = magic ++ (lebs n 4 ++ (lebs base 8 ++ (lebs check 8 ++ (lebs kept 4 ++ tl)))) ∧ decide (leNum (tl.take 1) = 1) = wiped := by
  unfold masterB padS headB
  cases wiped with
  | true => exact ⟨lebs 1 1 ++ List.replicate (512 - (magic ++ lebs n 4 ++ lebs base 8 ++ lebs check 8 ++ lebs kept 4 ++ lebs 1 1).length) 0, by simp only [if_true, List.append_assoc], by rw [List.take_append_of_le_length (by rw [lebs_length]; omega)]; decide⟩
  | false =>
   refine ⟨List.replicate 480 0, ?_, by decide⟩
   simp only [Bool.false_eq_true, if_false, List.append_nil, List.append_assoc, List.length_append, lebs_length, hmg]
 refine ⟨by rw [htl]; exact List.take_left' hmg, ?_⟩
 unfold rdMas
 have e1 : ((masterB ⟨n, base, check, kept, wiped⟩).drop 8).take 4 = lebs n 4 := by rw [htl]; exact seg hmg (lebs_length ..)
 have e2 : ((masterB ⟨n, base, check, kept, wiped⟩).drop 12).take 8 = lebs base 8 := by
  rw [htl, ← List.append_assoc]; exact seg (by rw [List.length_append, lebs_length]; rfl) (lebs_length ..)
 have e3 : ((masterB ⟨n, base, check, kept, wiped⟩).drop 20).take 8 = lebs check 8 := by
  rw [htl, ← List.append_assoc, ← List.append_assoc]; exact seg (by simp only [List.length_append, lebs_length]; rfl) (lebs_length ..)
 have e4 : ((masterB ⟨n, base, check, kept, wiped⟩).drop 28).take 4 = lebs kept 4 := by
  rw [htl, ← List.append_assoc, ← List.append_assoc, ← List.append_assoc]; exact seg (by simp only [List.length_append, lebs_length]; rfl) (lebs_length ..)
 have e5 : (masterB ⟨n, base, check, kept, wiped⟩).drop 32 = tl := by
  rw [htl, ← List.append_assoc, ← List.append_assoc, ← List.append_assoc, ← List.append_assoc]; exact List.drop_left' (by simp only [List.length_append, lebs_length]; rfl)
 rw [e1, e2, e3, e4, e5, ht1, leNum_lebs 4 _ (by omega), leNum_lebs 8 _ (by omega), leNum_lebs 8 _ (by omega), leNum_lebs 4 _ (by omega)]
theorem mast_sem {m : Mas} {k : Nat} (hm : MasOk m) (h1 : 16 ≤ m.n) (h2 : m.n < k) (h3 : 1 ≤ m.base) (h4 : m.base ≤ lastLSN) : mastQ k (masterB m) = .ok m := by
 obtain ⟨e1, e2⟩ := rd_master hm
 unfold mastQ
 rw [e1, e2, if_neg (by rintro (h | h | h | h | h | h) <;> first | exact h rfl | omega)]
theorem rm_sem {D : Dk} {m : Mas} (hv : V D 0 = masterB m) (hm : MasOk m) (h1 : 16 ≤ m.n) (h2 : m.n < D.kept.length) (h3 : 1 ≤ m.base) (h4 : m.base ≤ lastLSN) :
  (rmQ D).2.kept = D.kept ∧ (rmQ D).2.cache = D.cache ∧ (((rmQ D).1 = .ok m ∧ (NoTrip D → NoTrip (rmQ D).2)) ∨ ((rmQ D).1 = .error 8 ∧ (rmQ D).2.dark = true ∧ ¬ NoTrip D)) := by
 obtain ⟨r1, r2, r3⟩ := read_sem (D := D) (a := 0) (by omega)
 unfold rmQ
 cases hq : readQ D 0 with
 | mk x D1 =>
  rw [show readQ D ((0 : Nat) : Int) = (x, D1) from hq] at r1 r2 r3
  dsimp only at r1 r2 r3
  rcases r3 with ⟨rfl, r3⟩ | ⟨rfl, r3, r4⟩
  ·dsimp only
   rw [hv, mast_sem hm h1 h2 h3 h4]
   exact ⟨r1, r2, .inl ⟨rfl, r3⟩⟩
  ·exact ⟨r1, r2, .inr ⟨rfl, r3, r4⟩⟩
end Go.Proofs.YtmcdaegaopfihaaGreat.Wl
end
