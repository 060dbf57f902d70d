/-
  What the statements' arguments read as: values, expressions. Conditions: each theorem's own.
-/
import Derived.Test.YtmkhejdamjibgaaKY
import Derived.Test.YtmkhejdamjibgaaEe
import Derived.SizedLaws
namespace Go.Proofs.Ytmkhejdamjibgaa.Rd
open Go Go.K Go.Proofs Go.Proofs.Ytmkhejdamjibgaa Go.Proofs.Ytmkhejdamjibgaa.Rw
open Go.ChangeShapes Go.WideShapes Go.ChangeAt Go.RowKit
set_option linter.unusedVariables false
set_option linter.unusedSimpArgs false
set_option maxRecDepth 10000

section
variable {H : Type} {enc : TypeId × Value → H} {P : Program} {W : World} {base : Nat} {spare : Nat → Bool} {held : Bool}
/-- How long a slice may be that came in. -/
theorem len_reach {ts : List TypeId} {ds : List (DataW H)} {j fuel : Nat} {t e : TypeId} {d : DataW H} {p : List MemPlace} {a : Option Addr} {l c : Nat} (hsz : (DataW.weightsEach P ts ds).all (· ≤ reachBytes) = true) (ht' : ts[j]? = some t) (hd : ds[j]? = some d)
    (ht : P.underlying t = some (.slice e)) (h : DataW.trod enc P W base spare held fuel t [.slice a l c] = some (d, p)) : l * P.bytesOf e ≤ reachBytes := by
  rcases Go.Deep.open_slice ht h with ⟨hcs, _⟩ | ⟨a', len, cap, m, n, D, Pl, hcs, _, _, _, _, hx, _⟩
  · simp at hcs
    obtain ⟨-, rfl, -⟩ := hcs
    simp
  · simp at hcs
    obtain ⟨-, rfl, -⟩ := hcs
    have e1 : d = .slice ((List.range l).map D) ((List.range (m - l)).map fun j => D (l + j)) := congrArg Prod.fst hx
    have := sized_slice hsz ht' (by rw [hd, e1]) ht
    simp only [List.length_map, List.length_range] at this
    exact Nat.le_trans (Nat.mul_le_mul_right _ (Nat.le_add_right ..)) this
theorem val_of (cs : List Value) (n : Nat) (y : DataW H × List MemPlace) (h : DataW.trod enc Try.prog W base spare held n 23 cs = some y) : ∃ i : Val, cs = cV i ∧ wfV i := by
  obtain ⟨xs, k, rfl, rfl, hl, hlen, hf⟩ := DataW.trod_struct Try.underlying23 h
  have hl4 : cs.length = 3 := hl.trans (by kernel_rfl)
  have c3 : Try.prog.cellsOf 3 = 1 := by kernel_rfl
  have c4 : Try.prog.cellsOf 2 = 1 := by kernel_rfl
  have c9 : Try.prog.cellsOf 9 = 1 := by kernel_rfl
  match cs, hl4, xs, hlen with
  | [v0, v1, v2], _, [x0, x1, x2], _ =>
    have f0 := hf 0 _ rfl
    have f1 := hf 1 _ rfl
    have f2 := hf 2 _ rfl
    simp [c3, c4, c9] at f0 f1 f2
    obtain ⟨n0, e0, _, w0⟩ := DataW.trod_int Try.underlying3 f0
    obtain ⟨n1, e1, _, w1⟩ := DataW.trod_int Try.underlying2 f1
    obtain ⟨s2, e2, _, w2⟩ := DataW.trod_string Try.underlying9 f2
    simp at e0 e1 e2
    subst e0 e1 e2
    have b0 := bounds_i64 w0
    have b1 := bounds_i64 w1
    exact ⟨⟨n0, n1, s2⟩, rfl, ⟨b0.1, b0.2, b1.1, b1.2, w2⟩⟩
theorem vals_of {fuel : Nat} {x : DataW H × List MemPlace} {a : Option Addr} {len cap : Nat} (h : DataW.trod enc Try.prog W base spare held fuel 32 [Value.slice a len cap] = some x) :
    ∃ l : List Val, SL (Base.of W) 3 (.slice a len cap) (l.map cV) ∧ (∀ i ∈ l, wfV i) ∧ l.length = len := by
  obtain ⟨l, h1, h2, _⟩ := sl_of (sz := 3) (f := cV) (wf := wfV) (v := .slice a len cap) Try.underlying32 (by kernel_rfl) (by decide) val_of (fun _ => rfl) h ⟨_, _, _, rfl⟩
  obtain ⟨ao, c, e⟩ := h1.len
  rw [List.length_map] at e
  cases e
  exact ⟨l, h1, h2, rfl⟩
theorem exc_succ {h : Base} : ∀ {m : Nat} {cs : List Value} {e : Ex}, ExC h m cs e → ExC h (m + 1) cs e
  | m + 1, cs, .mk op val tb nm col args, ⟨h1, av, es, h2, h3, h4, h5, h6⟩ => ⟨h1, av, es, h2, h3, h4, h5, fun j c e a b => exc_succ (h6 j c e a b)⟩
theorem exs_of (sub : Nat → Prop) {k : Nat} (ih : ∀ n, n < k → ∀ cs y, DataW.trod enc Try.prog W base spare held n 26 cs = some y → ∃ e, ExC (Base.of W) n cs e) {v : Value} {x : DataW H × List MemPlace}
    (h : DataW.trod enc Try.prog W base spare held k 24 v.cells.toList = some x) (hv : ∃ a l c, v = .slice a l c) : ∃ es, SL (Base.of W) 8 v es ∧ ∃ args : List Ex, es.length = args.length ∧ args.length ≤ 9223372036854775807 ∧ ∀ (j : Nat) c e, es[j]? = some c → args[j]? = some e → ExC (Base.of W) k c e := by
  obtain ⟨es, n, hn, hsl, hel, hlen⟩ := slf_of (sz := 8) Try.underlying24 (by kernel_rfl) (by decide) h hv
  obtain ⟨args, ha, hp⟩ := list_of (p := fun i (e : Ex) => ∀ c, es[i]? = some c → ExC (Base.of W) k c e) es.length fun i hi => by
    obtain ⟨y, hy⟩ := hel _ (List.getElem_mem hi)
    have hk := hn (fun e => by rw [e] at hi; simp at hi)
    obtain ⟨e, he⟩ := ih n (by omega) _ _ hy
    refine ⟨e, fun c hc => ?_⟩
    rw [List.getElem?_eq_getElem hi] at hc
    cases hc
    rw [hk]; exact exc_succ he
  refine ⟨es, hsl, args, ha.symm, by rw [ha]; exact hlen, fun j c e hc he => ?_⟩
  obtain ⟨hl, e1⟩ := List.getElem?_eq_some_iff.1 he
  rw [← e1]; exact hp j hl c hc
theorem slice_form {t e : TypeId} {fuel : Nat} {v : Value} {x : DataW H × List MemPlace} (ht : P.underlying t = some (.slice e)) (h : DataW.trod enc P W base spare held fuel t [v] = some x) : ∃ a l c, v = .slice a l c := by
  rcases DataW.trod_slice ht h with ⟨hcs, _⟩ | ⟨a, len, cap, elems, rest, n, hfu, hcs, _⟩
  · simp at hcs; exact ⟨_, _, _, hcs⟩
  · simp at hcs; exact ⟨_, _, _, hcs⟩
theorem ex_of : ∀ (n : Nat) (cs : List Value) (y : DataW H × List MemPlace), DataW.trod enc Try.prog W base spare held n 26 cs = some y → ∃ e, ExC (Base.of W) n cs e := by
  intro n
  induction n using Nat.strongRecOn with
  | _ n ih =>
    intro cs y h
    obtain ⟨xs, k, rfl, rfl, hl, hlen, hf⟩ := DataW.trod_struct Try.underlying26 h
    have hl4 : cs.length = 8 := hl.trans (by kernel_rfl)
    have c3 : Try.prog.cellsOf 3 = 1 := by kernel_rfl
    have c9 : Try.prog.cellsOf 9 = 1 := by kernel_rfl
    have cv : Try.prog.cellsOf 23 = 3 := by kernel_rfl
    have ce : Try.prog.cellsOf 24 = 1 := by kernel_rfl
    match cs, hl4, xs, hlen with
    | [v0, v1, v2, v3, v4, v5, v6, v7], _, [x0, x1, x2, x3, x4, x5], _ =>
      have f0 := hf 0 _ rfl
      have f1 := hf 1 _ rfl
      have f2 := hf 2 _ rfl
      have f3 := hf 3 _ rfl
      have f4 := hf 4 _ rfl
      have f5 := hf 5 _ rfl
      simp [c3, c9, cv, ce] at f0 f1 f2 f3 f4 f5
      obtain ⟨n0, e0, _, w0⟩ := DataW.trod_int Try.underlying3 f0
      obtain ⟨val, e1, w1⟩ := val_of _ _ _ f1
      obtain ⟨s2, e2, _, w2⟩ := DataW.trod_string Try.underlying9 f2
      obtain ⟨s3, e3, _, w3⟩ := DataW.trod_string Try.underlying9 f3
      obtain ⟨n4, e4, _, w4⟩ := DataW.trod_int Try.underlying3 f4
      obtain ⟨a7, l7, q7, rfl⟩ := slice_form Try.underlying24 f5
      obtain ⟨es, hsl, args, h1, h2, h3⟩ := exs_of (fun _ => True) (k := k) (fun n hn cs y hy => ih n (by omega) cs y hy) (v := .slice a7 l7 q7) f5 ⟨_, _, _, rfl⟩
      simp [cV] at e0 e1 e2 e3 e4
      obtain ⟨e1a, e1b, e1c⟩ := e1
      subst e0 e1a e1b e1c e2 e3 e4
      have b0 := bounds_i64 w0
      have b4 := bounds_i64 w4
      exact ⟨.mk n0 val s2 s3 n4 args, ⟨⟨b0, w1, b4⟩, _, es, rfl, hsl, h1, h2, h3⟩⟩
theorem ex_val {fuel : Nat} {x : DataW H × List MemPlace} {v : Value} {w : World} {r : Reach} {b0 : Nat} (hval : Value.okWide Try.prog w r b0 26 v)
    (h : DataW.trod enc Try.prog W base spare held fuel 26 v.cells.toList = some x) : ∃ cs e m, v = .agg (cs : List Value).toArray ∧ ExC (Base.of W) m cs e := by
  obtain ⟨cs, rfl, -⟩ := okWide_struct Try.underlying26 hval
  obtain ⟨e, hw⟩ := ex_of _ _ _ h
  exact ⟨_, e, _, rfl, hw⟩
end
end Go.Proofs.Ytmkhejdamjibgaa.Rd
