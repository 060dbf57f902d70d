/-
  What the statements' arguments read as: expressions, how many columns they ask; by the bulk of what came in. Conditions: each theorem's own.
-/
import Derived.Test.YtmkhejdamjibgaaRows
import Derived.Test.YtmkhejdamjibgaaRe
import Derived.Test.YtmkhejdamjibgaaEk
namespace Go.Proofs.Ytmkhejdamjibgaa.Rd
open Go Go.K Go.Proofs Go.Proofs.Ytmkhejdamjibgaa Go.Proofs.Ytmkhejdamjibgaa.Rw
open Go.ChangeShapes Go.WideShapes Go.ChangeAt Go.RowKit
set_option linter.unusedVariables false
set_option linter.unusedSimpArgs false
set_option maxRecDepth 10000

section
variable {H : Type} {enc : TypeId × Value → H} {P : Program} {W : World} {base : Nat} {spare : Nat → Bool} {held : Bool}
theorem bulk_one (d : DataW H) : 1 ≤ Rows.uptoBulk d := by
  cases d with
  | lit l => cases l <;> simp [Rows.uptoBulk]
  | nil => simp [Rows.uptoBulk]
  | ptr d => simp [Rows.uptoBulk]
  | slice elems spare => simp [Rows.uptoBulk]
  | agg parts => simp [Rows.uptoBulk]
  | iface t d => simp [Rows.uptoBulk]
  | map entries => simp [Rows.uptoBulk]
  | held h => simp [Rows.uptoBulk]
theorem bulk_part {d : DataW H} : ∀ {l : List (DataW H)}, d ∈ l → Rows.uptoBulk d ≤ Rows.uptoBulkAll l
  | x :: l, h => by
    rw [Rows.uptoBulkAll]
    rcases List.mem_cons.1 h with rfl | h
    · omega
    · have := bulk_part h; omega
theorem bulk_len : ∀ l : List (DataW H), l.length ≤ Rows.uptoBulkAll l
  | [] => Nat.zero_le _
  | x :: l => by
    have h1 := bulk_one x
    have h2 := bulk_len l
    rw [Rows.uptoBulkAll, List.length_cons]; omega
theorem len_bulk {t e : TypeId} {fuel : Nat} {d : DataW H} {p : List MemPlace} {a : Option Addr} {l c : Nat} (ht : P.underlying t = some (.slice e)) (h : DataW.trod enc P W base spare held fuel t [.slice a l c] = some (d, p)) : l ≤ Rows.uptoBulk d := by
  rcases DataW.trod_slice ht h with ⟨hcs, _⟩ | ⟨a', len, cap, elems, rest, n, _, hcs, hx, _, _, _, hlen, _⟩
  · simp at hcs
    obtain ⟨-, rfl, -⟩ := hcs
    exact Nat.zero_le _
  · simp at hcs
    obtain ⟨-, rfl, -⟩ := hcs
    obtain rfl : d = .slice (elems.map (·.1)) (rest.map (·.1)) := congrArg Prod.fst hx
    have := bulk_len (elems.map (·.1))
    rw [List.length_map, hlen] at this
    rw [Rows.uptoBulk]; omega
theorem slb_of {t e : TypeId} {sz : Nat} {fuel : Nat} {v : Value} {x : DataW H × List MemPlace} (ht : P.underlying t = some (.slice e)) (hsz : P.cellsOf e = sz) (hpos : 0 < sz) (h : DataW.trod enc P W base spare held fuel t v.cells.toList = some x) (hv : ∃ a l c, v = .slice a l c) :
    ∃ (es : List (List Value)) (ds : List (DataW H)) (n : Nat), (es ≠ [] → fuel = n + 1) ∧ SL (Base.of W) sz v es ∧ es.length = ds.length ∧ es.length ≤ maxLen ∧ Rows.uptoBulkAll ds + 1 ≤ Rows.uptoBulk x.1 ∧ ∀ (i : Nat) cs d, es[i]? = some cs → ds[i]? = some d → ∃ pl, DataW.trod enc P W base spare held n e cs = some (d, pl) := by
  obtain ⟨av, lv, cv, rfl⟩ := hv
  rcases DataW.trod_slice ht h with ⟨hcs, hx⟩ | ⟨a, len, cap, elems, rest, n, hfu, hcs, rfl, hb, hl, hm, hlen, hel, hsp, hns⟩
  · simp [Value.cells] at hcs
    obtain ⟨rfl, rfl, rfl⟩ := hcs
    exact ⟨[], [], 0, fun h => absurd rfl h, .inl ⟨_, _, rfl, rfl⟩, rfl, by simp, by rw [hx]; exact Nat.le_refl _, fun i cs d h => by simp at h⟩
  · simp [Value.cells] at hcs
    obtain ⟨rfl, rfl, rfl⟩ := hcs
    subst hsz
    obtain ⟨l, hll, hp⟩ := list_of (p := fun i (y : List Value) => W.cells? base (a.add (i * P.cellsOf e)) (P.cellsOf e) = some y ∧ ∃ z, elems[i]? = some z ∧ DataW.trod enc P W base spare held n e y = some z) lv fun i hi => by
      have h1 := hel i hi
      rw [List.getElem?_eq_getElem (by omega)] at h1
      obtain ⟨cs', h2, h3⟩ := Option.bind_eq_some_iff.1 h1
      exact ⟨cs', h2, _, List.getElem?_eq_getElem (by omega), h3⟩
    have hsize : ∀ j (hj : j < l.length), l[j].length = P.cellsOf e := fun j hj => (World.cells?_some (hp j hj).1).2.1
    refine ⟨l, elems.map (·.1), n, fun _ => hfu, ?_, by rw [List.length_map, hlen, hll], by omega, by rw [Rows.uptoBulk]; omega, fun i cs d hi hd => ?_⟩
    · by_cases h0 : lv = 0
      · subst h0
        obtain rfl := List.length_eq_zero_iff.1 hll
        exact .inl ⟨_, _, rfl, rfl⟩
      · obtain ⟨b, off, spot⟩ := a
        have hc := (World.cells?_some (hp 0 (by omega)).1).2.2 0 hpos
        have hspot : spot = none := by
          have h1 : ∃ u, W.cell? ⟨b, off, spot⟩ = some u := ⟨_, by simpa [Addr.add, List.getElem?_eq_getElem (show 0 < (l[0]'(by omega)).length by rw [hsize]; exact hpos)] using hc⟩
          obtain ⟨u, hu⟩ := h1
          simpa using World.cell?_spot hu
        subst hspot
        refine .inr ⟨b, off, cv, by simp [hll], by omega, fun j hj => ⟨hsize j hj, ?_⟩⟩
        refine wcels_of _ _ fun i hi => ?_
        have hi' : i < P.cellsOf e := by rw [← hsize j hj]; exact hi
        have := (World.cells?_some (hp j hj).1).2.2 i hi'
        rw [show (Addr.add (Addr.add ⟨b, off, none⟩ (j * P.cellsOf e)) i) = ⟨b, off + j * P.cellsOf e + i, none⟩ from by unfold Addr.add; split <;> split <;> simp_all] at this
        exact this
    · obtain ⟨hlt, rfl⟩ := List.getElem?_eq_some_iff.1 hi
      obtain ⟨_, z, hz, htr⟩ := hp i hlt
      rw [List.getElem?_map, hz] at hd
      obtain rfl := Option.some.inj hd
      exact ⟨z.2, htr⟩
theorem cols_sum : ∀ (args : List Ex) (ds : List (DataW H)), args.length = ds.length → (∀ (i : Nat) e d, args[i]? = some e → ds[i]? = some d → (colsQ e).length ≤ Rows.uptoBulk d) → (args.flatMap colsQ).length ≤ Rows.uptoBulkAll ds
  | [], [], _, _ => Nat.zero_le _
  | e :: args, d :: ds, hl, h => by
    have h1 := h 0 e d rfl rfl
    have h2 := cols_sum args ds (by simpa using hl) fun i e d a b => h (i + 1) e d a b
    rw [List.flatMap_cons, List.length_append, Rows.uptoBulkAll]; omega
theorem ex_bulk : ∀ (n : Nat) (cs : List Value) (y : DataW H × List MemPlace), DataW.trod enc Try.prog W base spare held n 26 cs = some y → ∃ e, ExC (Base.of W) n cs e ∧ (colsQ e).length ≤ Rows.uptoBulk y.1 := by
  intro n
  induction n using Nat.strongRecOn with
  | _ n ih =>
    intro cs y h
    obtain ⟨xs, k, rfl, rfl, hl, hlen, hf⟩ := DataW.trod_struct Try.underlying26 h
    have hl4 : cs.length = 8 := hl.trans (by kernel_rfl)
    have c3 : Try.prog.cellsOf 3 = 1 := by kernel_rfl
    have c9 : Try.prog.cellsOf 9 = 1 := by kernel_rfl
    have cv : Try.prog.cellsOf 23 = 3 := by kernel_rfl
    have ce : Try.prog.cellsOf 24 = 1 := by kernel_rfl
    match cs, hl4, xs, hlen with
    | [v0, v1, v2, v3, v4, v5, v6, v7], _, [x0, x1, x2, x3, x4, x5], _ =>
      have f0 := hf 0 _ rfl
      have f1 := hf 1 _ rfl
      have f2 := hf 2 _ rfl
      have f3 := hf 3 _ rfl
      have f4 := hf 4 _ rfl
      have f5 := hf 5 _ rfl
      simp [c3, c9, cv, ce] at f0 f1 f2 f3 f4 f5
      obtain ⟨n0, e0, _, w0⟩ := DataW.trod_int Try.underlying3 f0
      obtain ⟨val, e1, w1⟩ := val_of _ _ _ f1
      obtain ⟨s2, e2, _, w2⟩ := DataW.trod_string Try.underlying9 f2
      obtain ⟨s3, e3, _, w3⟩ := DataW.trod_string Try.underlying9 f3
      obtain ⟨n4, e4, _, w4⟩ := DataW.trod_int Try.underlying3 f4
      obtain ⟨a7, l7, q7, rfl⟩ := slice_form Try.underlying24 f5
      obtain ⟨es, ds, n, hn, hsl, hds, hml, hbu, hel⟩ := slb_of (sz := 8) (v := .slice a7 l7 q7) Try.underlying24 (by kernel_rfl) (by decide) f5 ⟨_, _, _, rfl⟩
      obtain ⟨args, ha, hp⟩ := list_of (p := fun i (e : Ex) => ∀ c d, es[i]? = some c → ds[i]? = some d → ExC (Base.of W) k c e ∧ (colsQ e).length ≤ Rows.uptoBulk d) es.length fun i hi => by
        obtain ⟨pl, hy⟩ := hel i _ _ (List.getElem?_eq_getElem hi) (List.getElem?_eq_getElem (by omega))
        have hk := hn (fun e => by rw [e] at hi; simp at hi)
        obtain ⟨e, he, hb⟩ := ih n (by omega) _ _ hy
        refine ⟨e, fun c d hc hd => ?_⟩
        rw [List.getElem?_eq_getElem hi] at hc
        rw [List.getElem?_eq_getElem (by omega)] at hd
        cases hc
        cases hd
        exact ⟨by rw [hk]; exact exc_succ he, hb⟩
      simp [cV] at e0 e1 e2 e3 e4
      obtain ⟨e1a, e1b, e1c⟩ := e1
      subst e0 e1a e1b e1c e2 e3 e4
      have b0 := bounds_i64 w0
      have b4 := bounds_i64 w4
      unfold maxLen at hml
      have hsum := cols_sum args ds (by omega) fun i e d he hd => by
        obtain ⟨q1, q2⟩ := List.getElem?_eq_some_iff.1 he
        have := hp i q1 _ d (List.getElem?_eq_getElem (by omega)) hd
        rw [q2] at this
        exact this.2
      refine ⟨.mk n0 val s2 s3 n4 args, ⟨⟨b0, w1, b4⟩, _, es, rfl, hsl, ha.symm, by omega, fun j c e hc he => ?_⟩, ?_⟩
      · obtain ⟨q1, q2⟩ := List.getElem?_eq_some_iff.1 he
        have hlt := (List.getElem?_eq_some_iff.1 hc).1
        have := hp j q1 c _ hc (List.getElem?_eq_getElem (by omega))
        rw [q2] at this
        exact this.1
      · have h5 : Rows.uptoBulk x5.1 ≤ Rows.uptoBulkAll ([x0, x1, x2, x3, x4, x5].map (·.1)) := bulk_part (by simp)
        have h0 := bulk_one x0.1
        rw [colsQ, colsL_flat, List.length_append]
        show _ ≤ Rows.uptoBulk (.agg ([x0, x1, x2, x3, x4, x5].map (·.1)))
        rw [Rows.uptoBulk]
        have h1 : (if n0 = 3 then [n4] else []).length ≤ 1 := by split <;> simp
        omega
theorem exb_val {fuel : Nat} {x : DataW H × List MemPlace} {v : Value} {w : World} {r : Reach} {b0 : Nat} (hval : Value.okWide Try.prog w r b0 26 v)
    (h : DataW.trod enc Try.prog W base spare held fuel 26 v.cells.toList = some x) : ∃ cs e m, v = .agg (cs : List Value).toArray ∧ ExC (Base.of W) m cs e ∧ (colsQ e).length ≤ Rows.uptoBulk x.1 := by
  obtain ⟨cs, rfl, -⟩ := okWide_struct Try.underlying26 hval
  obtain ⟨e, hw, hb⟩ := ex_bulk _ _ _ h
  exact ⟨_, e, _, rfl, hw, hb⟩
end
end Go.Proofs.Ytmkhejdamjibgaa.Rd
