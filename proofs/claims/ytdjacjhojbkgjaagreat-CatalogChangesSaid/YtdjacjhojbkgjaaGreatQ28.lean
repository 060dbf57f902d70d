/-
  KN: the texts KS KT in one (rows of structs under the kit's sort), behind KNa. Conditions: each theorem's own.
-/
import Derived.Test.YtdjacjhojbkgjaaGreatQ3
import Derived.Sort.Row
import Derived.Sort.Grow
import Derived.Shelf.GgSortFunc.InsertionK
import Derived.Sort.Statements
/-! KS: a row of the call's own under the kit's contracts of the sort. Generic over the program. Conditions: none. -/
namespace Go.K
theorem heap_ltS {w : World} {b : Nat} {o : Obj} (h : w.heap[b]? = some o) : b < w.heap.size := by
  rcases Nat.lt_or_ge b w.heap.size with h' | h'
  · exact h'
  · rw [Array.getElem?_eq_none h'] at h; cases h
section
variable {P : Program} {n : NN} {Q : Exit → Act → World → Prop} {E : Env} {h h' h0 : Base} {H K R F : List Asrt}
theorem Ok.grow {w : World} (ok : Ok h H w) (os : Array Obj) : Ok h H (Sort.grow w os) := by
  have old : ∀ b, b < w.heap.size → (Sort.grow w os).heap[b]? = w.heap[b]? := fun b hb => by
    show (w.heap ++ os)[b]? = w.heap[b]?
    rw [Array.getElem?_append_left hb]
  refine ⟨ok.os, ok.tape, ok.output, ⟨fun b o hb => ?_, fun A hA => ?_⟩, ok.nd, ok.dj⟩
  · have := ok.sat.imm b o hb
    rw [old b (heap_ltS this)]; exact this
  · exact A.loc w _ (fun b hb => old b (A.live w (ok.sat.own A hA) b hb)) (ok.sat.own A hA)
theorem Ok.holds {T k b m cap : Nat} {cs : List Value} {w : World} (ok : Ok h (bufA T k (some b) m cap cs :: F) w) : Sort.Holds id w b 0 cs.toArray ∧ b < w.heap.size := by
  obtain ⟨sp, fz, g1, g2, g3, g4, g5, g6⟩ := ok.own_head
  refine ⟨fun j hj => ?_, heap_ltS g1⟩
  have hj' : j < cs.length := by simpa using hj
  have hlt : j < (cs ++ sp).length := by rw [List.length_append]; omega
  have hc : j < cap * k := by rw [← g3]; exact hlt
  constructor
  · simp [World.cell?, g1, List.getElem?_append_left hj', hj', getElem!_pos]
  · obtain ⟨lo, hi⟩ := fz
    have := g6 j hc
    simpa [World.frozen?, g1] using this
theorem putCells_app {cs cs' sp : List Value} (hl : cs'.length = cs.length) : Sort.putCells id 0 cs'.toArray (cs ++ sp).toArray = (cs' ++ sp).toArray := by
  apply Array.ext_getElem?
  intro i
  simp only [Sort.putCells, Array.getElem?_mapIdx, List.getElem?_toArray, Nat.zero_le, true_and, Nat.zero_add, List.size_toArray, Nat.sub_zero, id_eq]
  by_cases hi : i < cs'.length
  · rw [List.getElem?_append_left (by omega), List.getElem?_append_left hi, List.getElem?_eq_getElem (show i < cs.length by omega), List.getElem?_eq_getElem hi]
    simp [hi, getElem!_pos]
  · rw [List.getElem?_append_right (by omega), List.getElem?_append_right (by omega), hl]
    cases sp[i - cs.length]? with
    | none => rfl
    | some u => simp [show ¬ i < cs.length by omega]
theorem Ok.sorted {T k b m cap q : Nat} {cs cs' : List Value} {os : Array Obj} {w : World} (ok : Ok h (bufA T k (some b) m cap cs :: F) w) (hl : cs'.length = cs.length) :
    Ok h (bufA T k (some b) m cap cs' :: F) (Sort.grow (Sort.putRow id (Sort.ahead w q) b 0 cs'.toArray) os) := by
  refine Ok.grow ?_ os
  obtain ⟨sp, fz, g1, g2, g3, g4, g5, g6⟩ := ok.own_head
  have ok2 : Ok h (blkF b T (cs ++ sp) fz :: F) (Sort.ahead w q) := by
    have ok1 : Ok h (bufA T k (some b) m cap cs :: F) (Sort.ahead w q) := ok.drew rfl rfl rfl rfl
    refine ⟨ok1.os, ok1.tape, ok1.output, ⟨ok1.sat.imm, fun A hA => ?_⟩, ok1.nd, ok1.dj⟩
    rcases List.mem_cons.1 hA with rfl | hA'
    · exact g1
    · exact ok1.sat.own A (List.mem_cons_of_mem _ hA')
  have ok3 : Ok h (blkF b T (cs' ++ sp) fz :: F) (Sort.putRow id (Sort.ahead w q) b 0 cs'.toArray) := by
    refine ok2.write T (cs' ++ sp) fz rfl rfl rfl ?_ (fun x hx _ => ?_)
    · show (w.heap.modify b _)[b]? = _
      rw [Array.getElem?_modify, if_pos rfl, g1]
      simp only [Option.map_some, Sort.onCells, putCells_app hl]
    · show (w.heap.modify b _)[x]? = w.heap[x]?
      rw [Array.getElem?_modify, if_neg (fun e => hx e.symm)]
  exact ok3.shut (by rw [hl]; exact g2) (by rw [List.length_append, hl, ← List.length_append]; exact g3) g4 g5 g6
end
end Go.K

/-! KT: a row of structs, the call's own, under the kit's sort. Generic over the program. Conditions: each theorem's own. -/
namespace Go.K
open Go.Sort Go.Proofs
set_option linter.unusedVariables false
section
variable {P : Program} {h : Base} {α : Type} [Inhabited α]
omit [Inhabited α] in
theorem flatE_len (enc : α → List Value) (k : Nat) (hk : ∀ x, (enc x).length = k) : ∀ l : List α, (l.flatMap enc).length = l.length * k
  | [] => by simp
  | x :: l => by rw [List.flatMap_cons, List.length_append, hk, flatE_len enc k hk l, List.length_cons, Nat.succ_mul]; omega
theorem flatE_get (enc : α → List Value) (k : Nat) (hk : ∀ x, (enc x).length = k) : ∀ (l : List α) (t : Nat), t < l.length * k → (l.flatMap enc)[t]? = (enc (l[t / k]!))[t % k]?
  | [], t, h => by simp at h
  | x :: l, t, h => by
    rw [List.flatMap_cons]
    by_cases ht : t < k
    · rw [List.getElem?_append_left (by rw [hk]; exact ht), Nat.div_eq_of_lt ht, Nat.mod_eq_of_lt ht]
      rfl
    · obtain ⟨u, rfl⟩ : ∃ u, t = k + u := ⟨t - k, by omega⟩
      have k0 : 0 < k := by
        rcases Nat.eq_zero_or_pos k with e | e
        · subst e; simp at h
        · exact e
      have hu : u < l.length * k := by rw [List.length_cons, Nat.succ_mul] at h; omega
      rw [List.getElem?_append_right (by rw [hk]; omega), hk, show k + u - k = u from by omega, flatE_get enc k hk l u hu, Nat.add_div_left _ k0, Nat.add_mod_left]
      rfl
theorem flatK_list (enc : α → List Value) (k : Nat) (hk : ∀ x, (enc x).length = k) (l : List α) : flatK enc k l.toArray = (l.flatMap enc).toArray := by
  have hs : (flatK enc k l.toArray).size = (l.flatMap enc).toArray.size := by
    rw [size_flatK, List.size_toArray, List.size_toArray, flatE_len enc k hk]
  refine Go.Sort.ext_get! hs fun t ht => ?_
  rw [size_flatK, List.size_toArray] at ht
  rw [get_flatK _ _ _ _ (by rw [List.size_toArray]; exact ht)]
  have hg := flatE_get enc k hk l t ht
  have hl : t < (l.flatMap enc).length := by rw [flatE_len enc k hk]; exact ht
  have k0 : 0 < k := by
    rcases Nat.eq_zero_or_pos k with e | e
    · subst e; simp at ht
    · exact e
  have hm : t % k < (enc (l[t / k]!)).length := by rw [hk]; exact Nat.mod_lt _ k0
  rw [List.getElem?_eq_getElem hl, List.getElem?_eq_getElem hm] at hg
  have hl2 : t < (l.flatMap enc).toArray.size := by rw [List.size_toArray]; exact hl
  have e1 : (l.flatMap enc).toArray[t]! = (l.flatMap enc)[t] := by rw [getElem!_pos _ t hl2]; simp
  have e2 : (l.toArray[t / k]!) = l[t / k]! := by simp
  have e3 : (enc l[t / k]!)[t % k]! = (enc l[t / k]!)[t % k] := getElem!_pos (enc l[t / k]!) (t % k) hm
  rw [e1, e2, e3]
  exact (Option.some.inj hg).symm
theorem perm_of {d d' : Array α} (hp : PermIn 0 d.size d d') : d'.toList.Perm d.toList := by
  obtain ⟨h1, _, h3⟩ := hp
  have e1 : d.extract 0 d.size = d := by simp
  have e2 : d'.extract 0 d.size = d' := by rw [← h1]; simp
  rw [e1, e2] at h3
  exact h3
theorem sorted_of {lt : α → α → Bool} {d d' : Array α} (hs : d'.size = d.size) (hp : SortedIn lt 0 d.size d') : d'.toList.Pairwise fun x y => lt y x = false := by
  rw [List.pairwise_iff_getElem]
  intro i j hi hj hij
  have := hp i j (Nat.zero_le _) hij (by rw [← hs]; simpa using hj)
  rw [getElem!_pos d' j (by simpa using hj), getElem!_pos d' i (by simpa using hi)] at this
  simpa using this
theorem Tr.sort {f g : FuncId} {T k : Nat} {a : Option Nat} {m cap : Nat} (enc : α → List Value) (hk : ∀ x, (enc x).length = k) (lt : α → α → Bool) (l : List α) (hm : l.length = m) (hsz : m < 4611686018427387904)
    (hS : ∀ (blk cap : Nat) (d : Array α) (w : World), HoldsK enc k w blk 0 d → blk < w.heap.size → d.size < 4611686018427387904 → Calls P f #[.slice (some ⟨blk, 0, none⟩) d.size cap, .func (.func g) #[] #[]] w fun e w' => e = .returned (.tuple #[]) ∧ ∃ d' n os, PermIn 0 d.size d d' ∧ SortedIn lt 0 d.size d' ∧ w' = sortWorldK enc k w blk 0 n d' os)
    (hN : ∀ w, Calls P f #[.slice none 0 0, .func (.func g) #[] #[]] w fun e w' => e = .returned (.tuple #[]) ∧ w' = w) :
    Tr P f [bufV a m cap, .func (.func g) #[] #[]] h [bufA T k a m cap (l.flatMap enc)]
      (fun u h' H' => h = h' ∧ u = .tuple #[] ∧ ∃ l' : List α, l'.Perm l ∧ (l'.Pairwise fun x y => lt y x = false) ∧ H' = [bufA T k a m cap (l'.flatMap enc)]) := by
  intro F w ok
  subst hm
  cases a with
  | none =>
    obtain ⟨h1, h2, h3⟩ := ok.own_head
    obtain rfl : l = [] := List.eq_nil_of_length_eq_zero h1
    subst h2
    refine Calls.mono (hN w) fun e w' ⟨he, hw⟩ => ⟨_, he, h, _, .refl _, ⟨rfl, rfl, [], .refl _, .nil, rfl⟩, ?_⟩
    rw [hw]; exact ok
  | some b =>
    obtain ⟨hh, hb⟩ := ok.holds
    refine Calls.mono (hS b cap l.toArray w (by unfold HoldsK; rw [flatK_list enc k hk]; exact hh) hb hsz) fun e w' ⟨he, d', n, os, hp, hs, hw⟩ => ?_
    refine ⟨_, he, h, _, .refl _, ⟨rfl, rfl, d'.toList, perm_of hp, sorted_of hp.1 hs, rfl⟩, ?_⟩
    have hl : d'.toList.length = l.length := by have := hp.1; simpa using this
    have := ok.sorted (q := n) (os := os) (cs' := d'.toList.flatMap enc) (by rw [flatE_len enc k hk, flatE_len enc k hk, hl])
    rw [hw]
    unfold sortWorldK putRowK
    have e := flatK_list enc k hk d'.toList
    rw [show d'.toList.toArray = d' from by simp] at e
    rw [e]
    exact this
end
end Go.K
