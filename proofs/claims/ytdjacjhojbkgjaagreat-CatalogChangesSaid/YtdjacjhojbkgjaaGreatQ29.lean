/-
  Texts joined: KO Vq. Conditions: each theorem's own.
-/
import Derived.Test.YtdjacjhojbkgjaaGreatQ28
import Derived.Shelf.SlSortCmp.NoneTotal
import Derived.Test.YtdjacjhojbkgjaaGreatQ25
import Derived.Test.YtdjacjhojbkgjaaGreatQ27
section
namespace Go.K
open Go.Sort Go.Proofs Go.Lib
set_option linter.unusedVariables false
set_option linter.unusedSimpArgs false
section
variable {P : Program} {h : Base} {F : List Asrt} {α : Type} [Inhabited α]
theorem putRow_enc (enc : α → Value) (w : World) (b : Nat) (l : List α) : putRow enc w b 0 l.toArray = putRow id w b 0 (l.map enc).toArray := by
  have e : ∀ c : Array Value, putCells enc 0 l.toArray c = putCells id 0 (l.map enc).toArray c := fun c => by
    unfold putCells
    refine Array.ext (by simp) fun i h1 h2 => ?_
    simp only [Array.getElem_mapIdx, List.size_toArray, List.length_map, Nat.zero_le, true_and, Nat.zero_add, Nat.sub_zero, id_eq]
    by_cases hi : i < l.length
    · rw [if_pos hi, if_pos hi]
      simp [hi]
    · rw [if_neg hi, if_neg hi]
  unfold putRow
  rw [show putCells enc 0 l.toArray = putCells id 0 (l.map enc).toArray from funext e]
theorem holds_enc {enc : α → Value} {w : World} {b : Nat} {l : List α} (h : Holds id w b 0 (l.map enc).toArray) : Holds enc w b 0 l.toArray := fun j hj => by
  have hj' : j < l.length := by simpa using hj
  have := h j (by simpa using hj)
  rw [show (l.map enc).toArray[j]! = enc l.toArray[j]! by simp [hj']] at this
  exact this
theorem Tr.sort1 {f g : FuncId} {T : Nat} {a : Option Nat} {m cap : Nat} (enc : α → Value) (cf : α → α → Int) (l : List α) (hm : l.length = m) (hsz : m < 4611686018427387904)
    (hc : ∀ w x y, Sat h [] w → Calls P g #[enc x, enc y] w fun e w' => e = .returned (.int .i64 (cf x y)) ∧ ∃ q os', w' = grow (w.drewN q) os')
    (hS : ∀ (blk cap : Nat) (d : Array α) (w : World), CmpLays1 P g #[] enc cf blk 0 d.size w → Holds enc w blk 0 d → blk < w.heap.size → d.size < 4611686018427387904 → Calls P f #[.slice (some ⟨blk, 0, none⟩) d.size cap, .func (.func g) #[] #[]] w fun e w' => e = .returned (.tuple #[]) ∧ ∃ d' n os, PermIn 0 d.size d d' ∧ SortedIn (ltOf cf) 0 d.size d' ∧ w' = sortWorld enc w blk 0 n d' os)
    (hN : ∀ w, Calls P f #[.slice none 0 0, .func (.func g) #[] #[]] w fun e w' => e = .returned (.tuple #[]) ∧ w' = w) :
    Tr P f [bufV a m cap, .func (.func g) #[] #[]] h [bufA T 1 a m cap (l.map enc)]
      (fun u h' H' => h = h' ∧ u = .tuple #[] ∧ ∃ l' : List α, l'.Perm l ∧ (l'.Pairwise fun x y => ltOf cf y x = false) ∧ H' = [bufA T 1 a m cap (l'.map enc)]) := by
  intro F w ok
  subst hm
  cases a with
  | none =>
    obtain ⟨h1, h2, h3⟩ := ok.own_head
    obtain rfl : l = [] := List.eq_nil_of_length_eq_zero h1
    subst h2
    refine Calls.mono (hN w) fun e w' ⟨he, hw⟩ => ⟨_, he, h, _, .refl _, ⟨rfl, rfl, [], .refl _, .nil, rfl⟩, ?_⟩
    rw [hw]; exact ok
  | some b =>
    obtain ⟨hh, hb⟩ := ok.holds
    have go : ∀ (q : Nat) (os : Array Obj) (d : Array α), d.size = l.length → Ok h (bufA T 1 (some b) l.length cap (d.toList.map enc) :: F) (sortWorld enc w b 0 q d os) := fun q os d hd => by
      have := ok.sorted (q := q) (os := os) (cs' := d.toList.map enc) (by rw [List.length_map, List.length_map]; simpa using hd)
      have e := putRow_enc enc (Sort.ahead w q) b d.toList
      rw [show d.toList.toArray = d from by simp] at e
      unfold sortWorld
      rw [e]
      exact this
    refine Calls.mono (hS b cap l.toArray w (fun q os d hd x y => ?_) (holds_enc hh) hb hsz) fun e w' ⟨he, d', n, os, hp, hs, hw⟩ => ?_
    · exact hc _ x y (go q os d (by simpa using hd)).sat0
    · refine ⟨_, he, h, _, .refl _, ⟨rfl, rfl, d'.toList, perm_of hp, sorted_of hp.1 hs, rfl⟩, ?_⟩
      rw [hw]
      exact go n os d' (by have := hp.1; simpa using this)
end
end Go.K
end

section
namespace Go.Proofs.YtdjacjhojbkgjaaGreat.Ct
open Go Go.K Go.Proofs Go.Proofs.YtdjacjhojbkgjaaGreat Go.Proofs.YtdjacjhojbkgjaaGreat.Rw Go.Lib Go.Sort
set_option linter.unusedVariables false
set_option linter.unusedSimpArgs false
set_option maxRecDepth 10000

/-! ### The order of rows -/
abbrev Key := Int × Int × Int
def ltK (a b : Key) : Prop := a.1 < b.1 ∨ (a.1 = b.1 ∧ (a.2.1 < b.2.1 ∨ (a.2.1 = b.2.1 ∧ a.2.2 < b.2.2)))
theorem ltK_irr (a : Key) : ¬ ltK a a := by unfold ltK; omega
theorem ltK_trans {a b c : Key} (h1 : ltK a b) (h2 : ltK b c) : ltK a c := by unfold ltK at *; omega
theorem ltK_neg {a b c : Key} (h1 : ¬ ltK a b) (h2 : ¬ ltK b c) : ¬ ltK a c := by unfold ltK at *; omega
theorem ltK_tri {a b : Key} (h1 : ¬ ltK a b) (h2 : ¬ ltK b a) : a = b := by
  obtain ⟨a0, a1, a2⟩ := a
  obtain ⟨b0, b1, b2⟩ := b
  unfold ltK at *
  simp only [Prod.mk.injEq]
  simp only at h1 h2
  omega
def nAt (r : List Val) (i : Nat) : Int := match r[i]? with
  | some v => v.n
  | none => 0
def key3 (r : List Val) : Key := (nAt r 0, nAt r 1, nAt r 2)
theorem cmp3_lt (a b : Key) : So.cmp3 a b < 0 ↔ ltK a b := by
  unfold So.cmp3 ltK Lib.compareInt
  (repeat' split) <;> omega
structure RowT where
  b : Nat
  o : Nat
  c : Nat
  r : List Val
def RowT.v (x : RowT) : Value := .slice (some ⟨x.b, x.o, none⟩) 6 x.c
abbrev RowA (h : Base) := { x : RowT // x.r.length = 6 ∧ SL h 3 x.v (x.r.map cV) }
def cfR {h : Base} (x y : RowA h) : Int := So.cmp3 (key3 x.1.r) (key3 y.1.r)
theorem ltR {h : Base} (x y : RowA h) : ltOf cfR x y = true ↔ ltK (key3 x.1.r) (key3 y.1.r) := by
  rw [← cmp3_lt]
  unfold ltOf cfR
  exact decide_eq_true_iff
theorem ltR' {h : Base} (x y : RowA h) : ltOf cfR x y = false ↔ ¬ ltK (key3 x.1.r) (key3 y.1.r) := by rw [← ltR, Bool.not_eq_true]
theorem swoR {h : Base} : SWO (ltOf (cfR (h := h))) where
  irrefl x := (ltR' _ _).2 (ltK_irr _)
  trans x y z h1 h2 := (ltR _ _).2 (ltK_trans ((ltR _ _).1 h1) ((ltR _ _).1 h2))
  ntrans x y z h1 h2 := (ltR' _ _).2 (ltK_neg ((ltR' _ _).1 h1) ((ltR' _ _).1 h2))
theorem Each.cons_inv {α : Type} {R : α → List Value → Prop} {e : List Value} {es : List (List Value)} {x : α} {xs : List α} (h : Each R (e :: es) (x :: xs)) : R x e ∧ Each R es xs :=
  ⟨h.at_ 0 e x rfl rfl, ⟨by simpa using h.len, fun j c y hc hy => h.at_ (j + 1) c y (by simpa using hc) (by simpa using hy)⟩⟩
theorem rows_attach {h : Base} : ∀ {l : List (List Val)} {es : List (List Value)}, Each (RowC h) es l → (∀ r ∈ l, r.length = 6) → ∃ xs : List (RowA h), es.flatten = xs.map (fun x => x.1.v) ∧ xs.map (fun x => x.1.r) = l
  | [], es, he, _ => by
    have : es = [] := List.eq_nil_of_length_eq_zero he.len
    subst this
    exact ⟨[], rfl, rfl⟩
  | r :: l, [], he, _ => by have := he.len; simp at this
  | r :: l, e :: es, he, hl => by
    obtain ⟨⟨v, rfl, hs⟩, h2⟩ := he.cons_inv
    obtain ⟨xs, h3, h4⟩ := rows_attach h2 fun r hr => hl r (List.mem_cons_of_mem _ hr)
    have h6 := hl r List.mem_cons_self
    rcases hs with ⟨a, c, rfl, e0⟩ | ⟨b, o, c, rfl, hc, hj⟩
    · have := congrArg List.length e0
      simp [h6] at this
    · have h6' : (r.map cV).length = 6 := by simpa using h6
      refine ⟨⟨⟨b, o, c, r⟩, h6, .inr ⟨b, o, c, by rw [h6']; rfl, hc, hj⟩⟩ :: xs, ?_, ?_⟩
      · rw [List.flatten_cons, h3, List.map_cons]
        show Value.slice (some ⟨b, o, none⟩) (r.map cV).length c :: _ = Value.slice (some ⟨b, o, none⟩) 6 c :: _
        rw [h6']
        rfl
      · rw [List.map_cons, h4]
theorem rows_detach {h : Base} : ∀ (xs : List (RowA h)), ∃ es : List (List Value), es.flatten = xs.map (fun x => x.1.v) ∧ Each (RowC h) es (xs.map fun x => x.1.r)
  | [] => ⟨[], rfl, Each.nil⟩
  | x :: xs => by
    obtain ⟨es, h1, h2⟩ := rows_detach xs
    refine ⟨[x.1.v] :: es, by rw [List.flatten_cons, h1]; rfl, ⟨by simp [h2.len], fun j c y hc hy => ?_⟩⟩
    cases j with
    | zero =>
      simp at hc hy
      subst hc; subst hy
      exact ⟨_, rfl, x.2.2⟩
    | succ j => exact h2.at_ j c y (by simpa using hc) (by simpa using hy)
def RiseR (l : List (List Val)) : Prop := l.Pairwise fun x y => ¬ ltK (key3 y) (key3 x)
theorem cell_of {h : Base} {w : World} {b o : Nat} {v : Value} (hc : Cel h [] b o v) (hs : Sat h [] w) : w.cell? ⟨b, o, none⟩ = some v := hc.run w hs
theorem sortCmp {h : Base} (w : World) (x y : RowA h) (hs : Sat h [] w) : Calls Tryz.prog 51 #[x.1.v, y.1.v] w fun e w' => e = .returned (.int .i64 (cfR x y)) ∧ ∃ q os', w' = Go.Sort.grow (w.drewN q) os' := by
  have one : ∀ x : RowA h, ∀ i, i < 3 → w.cell? ⟨x.1.b, x.1.o + i * 3 + 1, none⟩ = some (.int .i64 (nAt x.1.r i)) := fun x i hi => by
    obtain ⟨⟨b, o, c, r⟩, h6, hr⟩ := x
    simp only at h6 hr ⊢
    have hx1 : r[i]? = some (r[i]'(by omega)) := List.getElem?_eq_getElem (by omega)
    have hn : nAt r i = (r[i]'(by omega)).n := by rw [nAt, hx1]
    rw [hn]
    generalize r[i]'(by omega) = v at hx1
    obtain ⟨b1, o1, e1, hcel⟩ := K.SL.at hr (j := i) (c := cV v) (by rw [List.getElem?_map, hx1]; rfl)
    simp only [RowT.v] at e1
    cases e1
    exact cell_of (v := .int .i64 v.n) hcel.2.1 hs
  have hx0 := one x 0 (by omega); have hx1 := one x 1 (by omega); have hx2 := one x 2 (by omega)
  have hy0 := one y 0 (by omega); have hy1 := one y 1 (by omega); have hy2 := one y 2 (by omega)
  exact So.orderW x.1.b x.1.o x.1.c y.1.b y.1.o y.1.c (key3 x.1.r) (key3 y.1.r) w hx0 hx1 hx2 hy0 hy1 hy2
theorem SortR (h : Base) (a : Option Nat) (m cap : Nat) (l : List (List Val)) (es : List (List Value)) (he : Each (RowC h) es l) (h6 : ∀ r ∈ l, r.length = 6) (hm : l.length = m) (hsz : m < 4611686018427387904) :
    Tr Tryz.prog 50 [bufV a m cap, .func (.func 51) #[] #[]] h [bufA 72 1 a m cap es.flatten]
      (fun u h' H' => h = h' ∧ u = .tuple #[] ∧ ∃ l' es', l'.Perm l ∧ RiseR l' ∧ Each (RowC h) es' l' ∧ H' = [bufA 72 1 a m cap es'.flatten]) := by
  obtain ⟨xs, h1, h2⟩ := rows_attach he h6
  have hxl : xs.length = m := by rw [← hm, ← h2, List.length_map]
  cases xs with
  | nil =>
    subst h2
    simp at hm
    subst hm
    intro F w ok
    have e : bufV a 0 cap = .slice (a.map fun b => ⟨b, 0, none⟩) 0 cap := rfl
    refine Calls.mono (AnyF.slices_SortFunc_none { So.sortRow with } (a.map fun b => ⟨b, 0, none⟩) cap (.func (.func 51) #[] #[]) w) fun e w' ⟨he', hw⟩ => ⟨_, he', h, _, .refl _, ⟨rfl, rfl, [], [], .refl _, .nil, Each.nil, rfl⟩, ?_⟩
    rw [hw]
    rw [h1] at ok
    exact ok
  | cons x0 xr =>
    haveI : Inhabited (RowA h) := ⟨x0⟩
    rw [h1]
    have := K.Tr.sort1 (P := Tryz.prog) (h := h) (f := 50) (g := 51) (T := 72) (a := a) (cap := cap) (fun x : RowA h => x.1.v) cfR (x0 :: xr) hxl hsz (fun w x y hs => sortCmp w x y hs) (fun blk cap d w hcmp hH hblk hsz => ?_) (fun w => ?_)
    · intro F w ok
      refine Calls.mono (this F w ok) ?_
      rintro e w' ⟨v, he', h', H', hle, ⟨rfl, rfl, l', hp, hs, rfl⟩, ok'⟩
      obtain ⟨es', h3, h4⟩ := rows_detach l'
      refine ⟨_, he', h, _, hle, ⟨rfl, rfl, l'.map (fun x => x.1.r), es', h2 ▸ hp.map _, ?_, h4, rfl⟩, ?_⟩
      · exact List.pairwise_map.2 (hs.imp fun h => (ltR' _ _).1 h)
      · rw [h3]
        exact ok'
    · have eg : ∀ args w, (callFunc 51 args).run Tryz.prog w = .ok (.enter 51 args) w := enters_of Tryz.func51 (by kernel_rfl) rfl
      exact Any.slices_SortFunc So.sortRow (fun x : RowA h => x.1.v) (fun x => rfl) cfR swoR 51 #[] blk 0 cap d w eg hcmp hH hblk hsz
    · exact AnyF.slices_SortFunc_none { So.sortRow with } none 0 _ w
end Go.Proofs.YtdjacjhojbkgjaaGreat.Ct
end
