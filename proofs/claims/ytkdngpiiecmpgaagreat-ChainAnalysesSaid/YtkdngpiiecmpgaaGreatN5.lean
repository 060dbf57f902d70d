/-
  N5: the texts Nq Nr Ns in one. Conditions: each theorem's own.
-/
import Derived.Test.YtkdngpiiecmpgaaGreatN1

/-! What is known so far: the document's state, its parts. Conditions: each theorem's own. -/
namespace Go.Proofs.YtkdngpiiecmpgaaGreat.Ch
open Go Go.K Go.Proofs Go.Proofs.YtkdngpiiecmpgaaGreat Go.Proofs.YtkdngpiiecmpgaaGreat.Pg Go.Proofs.YtkdngpiiecmpgaaGreat.Rc
set_option linter.unusedVariables false
set_option linter.unusedSimpArgs false
set_option maxRecDepth 10000

section
variable {P : Program} {n : Nat} {Q : Exit → Act → World → Prop} {E : Env} {h : Base} {H : List Asrt}
theorem AT.freezeRowE {q : Exit} {T sz m : Nat} {a : Option Nat} {cap : Nat} {cs : List Value} (es : List (List Value)) (hm : m = es.length) (hc : cs = es.flatten) (hz : ∀ e ∈ es, e.length = sz) (hk : ∀ h', h.le h' → SL h' sz (bufV a m cap) es → AT P n Q q E h' H) : AT P n Q q E h (bufA T sz a m cap cs :: H) := by
  subst hm; subst hc
  exact K.AT.freezeRow hz fun h' le hs _ => hk h' le hs
end
theorem ones_D (l : List PDirty) : ∀ e ∈ l.map cD, ones e = true := fun e he => by
  obtain ⟨x, _, rfl⟩ := List.mem_map.1 he
  rfl
theorem ones_L (l : List PLive) : ∀ e ∈ l.map cL, ones e = true := fun e he => by
  obtain ⟨x, _, rfl⟩ := List.mem_map.1 he
  rfl
theorem two_D (l : List PDirty) : ∀ e ∈ l.map cD, e.length = 2 := fun e he => by
  obtain ⟨x, _, rfl⟩ := List.mem_map.1 he
  rfl
theorem four_L (l : List PLive) : ∀ e ∈ l.map cL, e.length = 4 := fun e he => by
  obtain ⟨x, _, rfl⟩ := List.mem_map.1 he
  rfl
theorem ins_at {α : Type} {k : α → Nat} {x : α} : ∀ {l : List α} {i : Nat}, i ≤ l.length → (∀ j y, j < i → l[j]? = some y → k y < k x) → (∀ y, l[i]? = some y → k x < k y) → insK k x l = l.take i ++ x :: l.drop i
  | [], i, hi, _, _ => by simp at hi; subst hi; rfl
  | y :: l, 0, _, _, h2 => by
    have := h2 y rfl
    rw [insK, if_neg (by omega), if_neg (by omega)]
    rfl
  | y :: l, i + 1, hi, h1, h2 => by
    have := h1 0 y (by omega) rfl
    rw [insK, if_pos this, ins_at (i := i) (by simp at hi; omega) (fun j z hj hz => h1 (j + 1) z (by omega) hz) fun z hz => h2 z hz]
    rfl
theorem rising_few {α : Type} {k : α → Nat} {l : List α} (hr : Rising k l) {N : Nat} (hb : ∀ x ∈ l, k x < N) : l.length ≤ N := by
  have hn : (l.map k).Nodup := by
    rw [List.Nodup, List.pairwise_map]
    exact hr.imp fun {a b} hab e => by omega
  have := nodup_le (m := List.range N) hn fun y hy => by
    obtain ⟨x, hx, rfl⟩ := List.mem_map.1 hy
    exact List.mem_range.2 (hb x hx)
  simpa using this
theorem rise_lt {α : Type} {k : α → Nat} {l : List α} (hr : Rising k l) {i j : Nat} {x y : α} (hij : i < j) (hx : l[i]? = some x) (hy : l[j]? = some y) : k x < k y := by
  obtain ⟨hi, rfl⟩ := List.getElem?_eq_some_iff.1 hx
  obtain ⟨hj, rfl⟩ := List.getElem?_eq_some_iff.1 hy
  exact List.pairwise_iff_getElem.1 hr i j hi hj hij
/-- The document's state, in memory. -/
abbrev stR (B : Nat) (lv dv : Value) (n : Nat) : Asrt := blk B 83 [lv, dv, .int .u32 n]
structure InsS where
  j : Nat
  at_ : Nat
theorem ins_flat {α : Type} (f : α → List Value) (l : List α) (i : Nat) (x : α) : (((l.map f).take i).drop 0).flatten ++ f x ++ (((l.map f).take (l.map f).length).drop i).flatten = ((l.take i ++ x :: l.drop i).map f).flatten := by
  simp only [List.drop_zero, List.take_length, List.map_append, List.map_cons, List.map_take, List.map_drop, List.flatten_append, List.flatten_cons, List.append_assoc]
set_option maxHeartbeats 8000000 in
theorem RTouch (h : Base) (B nx n lsn : Nat) (lv dv : Value) (d : List PDirty) (hd : SL h 2 dv (d.map cD)) (hr : Rising PDirty.page d) (hw : ∀ x ∈ d, wfD x) (hn : n < 4294967296) (hl : lsn < 18446744073709551616) :
    Tr Tryz.prog 61 [stP B, .int .u32 n, .int .u64 lsn] h [stR B lv dv nx]
      (fun u h' H' => u = .tuple #[] ∧ ∃ dv', H' = [stR B lv dv' nx] ∧ SL h' 2 dv' ((touchQ d n lsn).map cD)) := by
  have hfew := rising_few hr (N := 4294967296) fun x hx => (hw x hx).page
  obtain ⟨ao, ca, rfl⟩ := hd.len
  rw [List.length_map] at hd ⊢
  have hr := fun (_ : Unit) => hr
  have hw := fun (_ : Unit) => hw
  refine K.enter Tryz.func61 rfl (Nat.le_of_ble_eq_true rfl) (fun F => ?_)
  simp only [List.nil_append, List.cons_append]
  (repeat' (first | refine X.rq ?_ | (refine X.rc ?_ ?_ <;> intro hc <;> first | (exfalso; omega) | skip)))
  refine K.c_loop (σ := InsS) (fun q => [(0, stP B), (1, .int .u32 n), (2, .int .u64 lsn), (6, .int .i64 q.at_), (7, .int .i64 q.j)]) (fun _ => h) (fun _ => stR B lv (.slice ao d.length ca) nx :: F)
    (fun q => q.j ≤ d.length ∧ q.at_ ≤ q.j ∧ (∀ i y, i < q.at_ → d[i]? = some y → y.page < n) ∧ ∀ i y, q.at_ ≤ i → i < q.j → d[i]? = some y → n < y.page) (fun q => d.length - q.j) ⟨0, 0⟩
    ⟨Nat.zero_le _, Nat.zero_le _, (fun i y hi => absurd hi (Nat.not_lt_zero _)), (fun i y _ hi => absurd hi (Nat.not_lt_zero _))⟩ (by repeat (first | exact K.Sub.nil _ | refine K.Sub.cons rfl ?_)) rfl rfl ?_
  rintro ⟨j, p⟩ ⟨hj, hp, hlo, hhi⟩ KL hKL
  dsimp only at hj hp hlo hhi ⊢
  have hlo := fun (_ : Unit) => hlo
  have hhi := fun (_ : Unit) => hhi
  by_cases hjl : j < d.length
  · have hx1 : d[j]? = some (d[j]'hjl) := List.getElem?_eq_getElem hjl
    have hc0 : (d.map cD)[((j : Nat) : Int).toNat]? = some (cD (d[j]'hjl)) := by rw [Int.toNat_natCast, List.getElem?_map, hx1]; rfl
    have hmem : d[j] ∈ d := List.getElem_mem hjl
    generalize d[j]'hjl = x at hx1 hc0 hmem
    have hxp := (hw () x hmem).page
    (repeat' (first | refine X.rq ?_ | (refine X.rc ?_ ?_ <;> intro hc <;> first | (exfalso; omega) | skip)))
    refine K.s_pureE (K.p_indexL hd (Fx.und rfl) (Fx.sz rfl) rfl rfl (by omega) hc0) rfl ?_
    rintro v2 ⟨b2, o2, rfl, hcel⟩
    have hcl := Cels.get (Cels.up (K := stR B lv (.slice ao d.length ca) nx :: F) hcel) 0 (.int .u32 x.page) rfl
    by_cases he : x.page = n
    · have hq : touchQ d n lsn = d := by
        unfold touchQ
        rw [if_pos (by rw [← he, mem_findK (hr ()) hmem]; rfl)]
      (repeat' (first | refine X.rq ?_ | (refine X.rc ?_ ?_ <;> intro hc <;> first | (exfalso; omega) | skip)))
      refine K.done (by first | exact Or.inl rfl | exact Or.inr rfl) rfl (by first | exact K.Base.le.refl _ | assumption) (H' := [stR B lv (.slice ao d.length ca) nx]) rfl ⟨rfl, _, rfl, by rw [hq]; exact hd⟩
    · by_cases hlt : x.page < n
      · (repeat' (first | refine X.rq ?_ | (refine X.rc ?_ ?_ <;> intro hc <;> first | (exfalso; omega) | skip)))
        refine K.s_pureE (K.p_indexL hd (Fx.und rfl) (Fx.sz rfl) rfl rfl (by omega) hc0) rfl ?_
        rintro v3 ⟨b3, o3, rfl, hcel3⟩
        have hcl3 := Cels.get (Cels.up (K := stR B lv (.slice ao d.length ca) nx :: F) hcel3) 0 (.int .u32 x.page) rfl
        (repeat' (first | refine X.rq ?_ | (refine X.rc ?_ ?_ <;> intro hc <;> first | (exfalso; omega) | skip)))
        refine K.a_round hKL ⟨j + 1, j + 1⟩ ⟨by dsimp only; omega, Nat.le_refl _, fun i y hi hy => ?_, fun i y h1 h2 => by dsimp only at h1 h2; omega⟩ (by repeat (first | exact K.Sub.nil _ | refine K.Sub.cons rfl ?_)) rfl rfl (by dsimp only; omega)
        dsimp only at hi
        by_cases hij : i = j
        · subst hij; rw [hx1] at hy; obtain rfl := Option.some.inj hy; exact hlt
        · have := rise_lt (hr ()) (by omega : i < j) hy hx1; omega
      · (repeat' (first | refine X.rq ?_ | (refine X.rc ?_ ?_ <;> intro hc <;> first | (exfalso; omega) | skip)))
        refine K.s_pureE (K.p_indexL hd (Fx.und rfl) (Fx.sz rfl) rfl rfl (by omega) hc0) rfl ?_
        rintro v3 ⟨b3, o3, rfl, hcel3⟩
        have hcl3 := Cels.get (Cels.up (K := stR B lv (.slice ao d.length ca) nx :: F) hcel3) 0 (.int .u32 x.page) rfl
        (repeat' (first | refine X.rq ?_ | (refine X.rc ?_ ?_ <;> intro hc <;> first | (exfalso; omega) | skip)))
        refine K.a_round hKL ⟨j + 1, p⟩ ⟨by dsimp only; omega, by dsimp only; omega, hlo (), fun i y h1 h2 hy => ?_⟩ (by repeat (first | exact K.Sub.nil _ | refine K.Sub.cons rfl ?_)) rfl rfl (by dsimp only; omega)
        dsimp only at h1 h2
        by_cases hij : i = j
        · subst hij; rw [hx1] at hy; obtain rfl := Option.some.inj hy; omega
        · exact hhi () i y h1 (by omega) hy
  · obtain rfl : j = d.length := by omega
    have hq : touchQ d n lsn = d.take p ++ ⟨n, lsn⟩ :: d.drop p := by
      unfold touchQ
      rw [if_neg, ins_at (x := (⟨n, lsn⟩ : PDirty)) hp (hlo ()) (fun y hy => hhi () p y (Nat.le_refl _) (List.getElem?_eq_some_iff.1 hy).1 hy)]
      intro hs
      obtain ⟨x, hx⟩ := Option.isSome_iff_exists.1 hs
      obtain ⟨hxm, hxn⟩ := findK_mem hx
      obtain ⟨i, hi⟩ := List.mem_iff_getElem?.1 hxm
      have hil := (List.getElem?_eq_some_iff.1 hi).1
      by_cases hip : i < p
      · have := hlo () i x hip hi; omega
      · have := hhi () i x (by omega) hil hi; omega
    have hml : (d.map cD).length = d.length := List.length_map ..
    clear hw hlo hhi hr
    (repeat' (first | refine X.rq ?_ | (refine X.rc ?_ ?_ <;> intro hc <;> first | (exfalso; omega) | skip)))
    refine K.s_pureE (K.p_sliceL (k1 := .i64) (k2 := .i64) (p := 0) (q := p) hd (Fx.und rfl) (Fx.sz rfl) rfl rfl ⟨_, rfl, rfl⟩ (Nat.zero_le _) (by rw [hml]; exact hp)) rfl ?_
    intro v46 hv46
    have hs1 := fun KK => hv46.src (P := Tryz.prog) (K := KK) (fun e he => ones_D d e (List.mem_of_mem_take (List.mem_of_mem_drop he)))
    have hl1 : (((d.map cD).take p).drop 0).length = p := by simp; omega
    have hl2 : (((d.map cD).take (d.map cD).length).drop p).length = d.length - p := by simp
    rw [hl1] at hs1
    refine K.WL.nilBuf 40 2 ?_
    refine K.l_append_at 0 rfl (Fx.und rfl) (Fx.und rfl) rfl (Fx.sz rfl) (Fx.zr rfl) rfl (Fx.byt rfl) rfl rfl (hs1 _) (by omega) (by omega) rfl (fun a3 c3 => ?_)
    simp only [List.set_cons_zero, List.set_cons_succ, List.eraseIdx_cons_zero, List.eraseIdx_cons_succ, List.cons_append, List.nil_append]
    (repeat' (first | refine X.rq ?_ | (refine X.rc ?_ ?_ <;> intro hc <;> first | (exfalso; omega) | skip)))
    refine K.l_buildSlice (Fx.und rfl) (Fx.sz rfl) rfl (Fx.zr rfl) rfl rfl rfl (cs := cD ⟨n, lsn⟩) rfl rfl (fun B52 => ?_)
    refine K.l_append_at 1 rfl (Fx.und rfl) (Fx.und rfl) rfl (Fx.sz rfl) (Fx.zr rfl) rfl (Fx.byt rfl) rfl rfl (K.src_cells (K.cels_own (pre := []) (cs := cD ⟨n, lsn⟩) (post := []) 0 rfl rfl) rfl (by simp [oneCell, cD])) (by omega) (by omega) rfl (fun a4 c4 => ?_)
    simp only [List.set_cons_zero, List.set_cons_succ, List.eraseIdx_cons_zero, List.eraseIdx_cons_succ, List.cons_append, List.nil_append]
    (repeat' (first | refine X.rq ?_ | (refine X.rc ?_ ?_ <;> intro hc <;> first | (exfalso; omega) | skip)))
    refine K.s_pureE (K.p_sliceL (k1 := .i64) (k2 := .i64) (p := p) (q := (d.map cD).length) hd (Fx.und rfl) (Fx.sz rfl) rfl ⟨_, rfl, rfl⟩ rfl (by rw [hml]; exact hp) (Nat.le_refl _)) rfl ?_
    intro v61 hv61
    have hs2 := fun KK => hv61.src (P := Tryz.prog) (K := KK) (fun e he => ones_D d e (List.mem_of_mem_take (List.mem_of_mem_drop he)))
    rw [hl2] at hs2
    refine K.l_append_at 1 rfl (Fx.und rfl) (Fx.und rfl) rfl (Fx.sz rfl) (Fx.zr rfl) rfl (Fx.byt rfl) rfl rfl (hs2 _) (by omega) (by omega) rfl (fun a5 c5 => ?_)
    simp only [List.set_cons_zero, List.set_cons_succ, List.eraseIdx_cons_zero, List.eraseIdx_cons_succ, List.cons_append, List.nil_append]
    (repeat' (first | refine X.rq ?_ | (refine X.rc ?_ ?_ <;> intro hc <;> first | (exfalso; omega) | skip)))
    refine X.sto ?_
    simp only [List.set_cons_zero, List.set_cons_succ, List.eraseIdx_cons_zero, List.eraseIdx_cons_succ, List.cons_append, List.nil_append]
    (repeat' (first | refine X.rq ?_ | (refine X.rc ?_ ?_ <;> intro hc <;> first | (exfalso; omega) | skip)))
    refine K.AT.sel [0] rfl ?_
    refine Ch.AT.freezeRowE ((touchQ d n lsn).map cD) ?_ ?_ (two_D _) (fun h2 le2 hsl => ?_)
    · rw [hq]; simp; omega
    · rw [hq, ← ins_flat]
    refine K.done (by first | exact Or.inl rfl | exact Or.inr rfl) rfl (by first | exact K.Base.le.refl _ | assumption) (H' := [stR B lv (bufV a5 _ c5) nx]) rfl ⟨rfl, _, rfl, hsl⟩
set_option maxHeartbeats 8000000 in
theorem RBegin (h : Base) (B nx n lsn : Nat) (lv dv : Value) (d : List PLive) (hd : SL h 4 lv (d.map cL)) (hr : Rising PLive.txn d) (hw : ∀ x ∈ d, wfL x) (hn : n < 4294967296) (hl : lsn < 18446744073709551616) (hno : findK PLive.txn d n = none) (hnx : nx < 4294967296) :
    Tr Tryz.prog 63 [stP B, .int .u32 n, .int .u64 lsn] h [stR B lv dv nx]
      (fun u h' H' => u = .tuple #[] ∧ ∃ lv', H' = [stR B lv' dv (max nx (if n < 4294967295 then n + 1 else n))] ∧ SL h' 4 lv' ((insK PLive.txn ⟨n, lsn, 0, true⟩ d).map cL)) := by
  have hfew := rising_few hr (N := 4294967296) fun x hx => (hw x hx).txn
  obtain ⟨ao, ca, rfl⟩ := hd.len
  rw [List.length_map] at hd ⊢
  have hr := fun (_ : Unit) => hr
  have hw := fun (_ : Unit) => hw
  refine K.enter Tryz.func63 rfl (Nat.le_of_ble_eq_true rfl) (fun F => ?_)
  simp only [List.nil_append, List.cons_append]
  (repeat' (first | refine X.rq ?_ | (refine X.rc ?_ ?_ <;> intro hc <;> first | (exfalso; omega) | skip)))
  refine K.c_loop (σ := InsS) (fun q => [(0, stP B), (1, .int .u32 n), (2, .int .u64 lsn), (6, .int .i64 q.at_), (7, .int .i64 q.j)]) (fun _ => h) (fun _ => stR B (.slice ao d.length ca) dv nx :: F)
    (fun q => q.j ≤ d.length ∧ q.at_ ≤ q.j ∧ (∀ i y, i < q.at_ → d[i]? = some y → y.txn < n) ∧ ∀ i y, q.at_ ≤ i → i < q.j → d[i]? = some y → n < y.txn) (fun q => d.length - q.j) ⟨0, 0⟩
    ⟨Nat.zero_le _, Nat.zero_le _, (fun i y hi => absurd hi (Nat.not_lt_zero _)), (fun i y _ hi => absurd hi (Nat.not_lt_zero _))⟩ (by repeat (first | exact K.Sub.nil _ | refine K.Sub.cons rfl ?_)) rfl rfl ?_
  rintro ⟨j, p⟩ ⟨hj, hp, hlo, hhi⟩ KL hKL
  dsimp only at hj hp hlo hhi ⊢
  have hlo := fun (_ : Unit) => hlo
  have hhi := fun (_ : Unit) => hhi
  by_cases hjl : j < d.length
  · have hx1 : d[j]? = some (d[j]'hjl) := List.getElem?_eq_getElem hjl
    have hc0 : (d.map cL)[((j : Nat) : Int).toNat]? = some (cL (d[j]'hjl)) := by rw [Int.toNat_natCast, List.getElem?_map, hx1]; rfl
    have hmem : d[j] ∈ d := List.getElem_mem hjl
    generalize d[j]'hjl = x at hx1 hc0 hmem
    have hxp := (hw () x hmem).txn
    (repeat' (first | refine X.rq ?_ | (refine X.rc ?_ ?_ <;> intro hc <;> first | (exfalso; omega) | skip)))
    refine K.s_pureE (K.p_indexL hd (Fx.und rfl) (Fx.sz rfl) rfl rfl (by omega) hc0) rfl ?_
    rintro v2 ⟨b2, o2, rfl, hcel⟩
    have hcl := Cels.get (Cels.up (K := stR B (.slice ao d.length ca) dv nx :: F) hcel) 0 (.int .u32 x.txn) rfl
    have he : x.txn ≠ n := fun e => by
      have := mem_findK (hr ()) hmem
      rw [e, hno] at this
      cases this
    by_cases hlt : x.txn < n
    · (repeat' (first | refine X.rq ?_ | (refine X.rc ?_ ?_ <;> intro hc <;> first | (exfalso; omega) | skip)))
      refine K.a_round hKL ⟨j + 1, j + 1⟩ ⟨by dsimp only; omega, Nat.le_refl _, fun i y hi hy => ?_, fun i y h1 h2 => by dsimp only at h1 h2; omega⟩ (by repeat (first | exact K.Sub.nil _ | refine K.Sub.cons rfl ?_)) rfl rfl (by dsimp only; omega)
      dsimp only at hi
      by_cases hij : i = j
      · subst hij; rw [hx1] at hy; obtain rfl := Option.some.inj hy; exact hlt
      · have := rise_lt (hr ()) (by omega : i < j) hy hx1; omega
    · (repeat' (first | refine X.rq ?_ | (refine X.rc ?_ ?_ <;> intro hc <;> first | (exfalso; omega) | skip)))
      refine K.a_round hKL ⟨j + 1, p⟩ ⟨by dsimp only; omega, by dsimp only; omega, hlo (), fun i y h1 h2 hy => ?_⟩ (by repeat (first | exact K.Sub.nil _ | refine K.Sub.cons rfl ?_)) rfl rfl (by dsimp only; omega)
      dsimp only at h1 h2
      by_cases hij : i = j
      · subst hij; rw [hx1] at hy; obtain rfl := Option.some.inj hy; omega
      · exact hhi () i y h1 (by omega) hy
  · obtain rfl : j = d.length := by omega
    have hq : insK PLive.txn ⟨n, lsn, 0, true⟩ d = d.take p ++ ⟨n, lsn, 0, true⟩ :: d.drop p := ins_at (x := (⟨n, lsn, 0, true⟩ : PLive)) hp (hlo ()) (fun y hy => hhi () p y (Nat.le_refl _) (List.getElem?_eq_some_iff.1 hy).1 hy)
    have hml : (d.map cL).length = d.length := List.length_map ..
    clear hw hlo hhi hr
    (repeat' (first | refine X.rq ?_ | (refine X.rc ?_ ?_ <;> intro hc <;> first | (exfalso; omega) | skip)))
    refine K.s_pureE (K.p_sliceL (k1 := .i64) (k2 := .i64) (p := 0) (q := p) hd (Fx.und rfl) (Fx.sz rfl) rfl rfl ⟨_, rfl, rfl⟩ (Nat.zero_le _) (by rw [hml]; exact hp)) rfl ?_
    intro v46 hv46
    have hs1 := fun KK => hv46.src (P := Tryz.prog) (K := KK) (fun e he => ones_L d e (List.mem_of_mem_take (List.mem_of_mem_drop he)))
    have hl1 : (((d.map cL).take p).drop 0).length = p := by simp; omega
    have hl2 : (((d.map cL).take (d.map cL).length).drop p).length = d.length - p := by simp
    rw [hl1] at hs1
    refine K.WL.nilBuf 38 4 ?_
    refine K.l_append_at 0 rfl (Fx.und rfl) (Fx.und rfl) rfl (Fx.sz rfl) (Fx.zr rfl) rfl (Fx.byt rfl) rfl rfl (hs1 _) (by omega) (by omega) rfl (fun a3 c3 => ?_)
    simp only [List.set_cons_zero, List.set_cons_succ, List.eraseIdx_cons_zero, List.eraseIdx_cons_succ, List.cons_append, List.nil_append]
    (repeat' (first | refine X.rq ?_ | (refine X.rc ?_ ?_ <;> intro hc <;> first | (exfalso; omega) | skip)))
    refine K.l_buildSlice (Fx.und rfl) (Fx.sz rfl) rfl (Fx.zr rfl) rfl rfl rfl (cs := cL ⟨n, lsn, 0, true⟩) rfl rfl (fun B52 => ?_)
    refine K.l_append_at 1 rfl (Fx.und rfl) (Fx.und rfl) rfl (Fx.sz rfl) (Fx.zr rfl) rfl (Fx.byt rfl) rfl rfl (K.src_cells (K.cels_own (pre := []) (cs := cL ⟨n, lsn, 0, true⟩) (post := []) 0 rfl rfl) rfl (by simp [oneCell, cL])) (by omega) (by omega) rfl (fun a4 c4 => ?_)
    simp only [List.set_cons_zero, List.set_cons_succ, List.eraseIdx_cons_zero, List.eraseIdx_cons_succ, List.cons_append, List.nil_append]
    (repeat' (first | refine X.rq ?_ | (refine X.rc ?_ ?_ <;> intro hc <;> first | (exfalso; omega) | skip)))
    refine K.s_pureE (K.p_sliceL (k1 := .i64) (k2 := .i64) (p := p) (q := (d.map cL).length) hd (Fx.und rfl) (Fx.sz rfl) rfl ⟨_, rfl, rfl⟩ rfl (by rw [hml]; exact hp) (Nat.le_refl _)) rfl ?_
    intro v61 hv61
    have hs2 := fun KK => hv61.src (P := Tryz.prog) (K := KK) (fun e he => ones_L d e (List.mem_of_mem_take (List.mem_of_mem_drop he)))
    rw [hl2] at hs2
    refine K.l_append_at 1 rfl (Fx.und rfl) (Fx.und rfl) rfl (Fx.sz rfl) (Fx.zr rfl) rfl (Fx.byt rfl) rfl rfl (hs2 _) (by omega) (by omega) rfl (fun a5 c5 => ?_)
    simp only [List.set_cons_zero, List.set_cons_succ, List.eraseIdx_cons_zero, List.eraseIdx_cons_succ, List.cons_append, List.nil_append]
    (repeat' (first | refine X.rq ?_ | (refine X.rc ?_ ?_ <;> intro hc <;> first | (exfalso; omega) | skip)))
    refine X.sto ?_
    simp only [List.set_cons_zero, List.set_cons_succ, List.eraseIdx_cons_zero, List.eraseIdx_cons_succ, List.cons_append, List.nil_append]
    have hmx : max (nx : Int) ((n : Int) + 1) = ((max nx (n + 1) : Nat) : Int) := by omega
    have hmx2 : max (nx : Int) (n : Int) = ((max nx n : Nat) : Int) := by omega
    by_cases hlt : n < 4294967295
    · rw [if_pos hlt]
      refine X.l ?_
      refine X.a ?_
      refine X.w ?_
      refine X.w ?_
      refine X.rq ?_
      refine X.rq ?_
      refine X.l ?_
      refine X.a ?_
      refine X.w ?_
      refine X.w ?_
      refine X.w ?_
      refine X.rq ?_
      refine K.s_pure (K.p_lss rfl rfl) rfl ?_
      rw [decide_eq_true (show (n : Int) < 4294967295 by omega)]
      (repeat' (first | refine X.rq ?_ | (refine X.rc ?_ ?_ <;> intro hc <;> first | (exfalso; omega) | skip)))
      refine X.sto ?_
      simp only [List.set_cons_zero, List.set_cons_succ, List.eraseIdx_cons_zero, List.eraseIdx_cons_succ, List.cons_append, List.nil_append]
      (repeat' (first | refine X.rq ?_ | (refine X.rc ?_ ?_ <;> intro hc <;> first | (exfalso; omega) | skip)))
      rw [hmx]
      refine K.AT.sel [0] rfl ?_
      refine Ch.AT.freezeRowE ((insK PLive.txn ⟨n, lsn, 0, true⟩ d).map cL) ?_ ?_ (four_L _) (fun h2 le2 hsl => ?_)
      · rw [hq]; simp <;> omega
      · rw [hq, ← ins_flat]
      refine K.done (by first | exact Or.inl rfl | exact Or.inr rfl) rfl (by first | exact K.Base.le.refl _ | assumption) (H' := [stR B (bufV a5 _ c5) dv (max nx (n + 1))]) rfl ⟨rfl, _, rfl, hsl⟩
    · rw [if_neg hlt]
      refine X.l ?_
      refine X.a ?_
      refine X.w ?_
      refine X.w ?_
      refine X.rq ?_
      refine X.rq ?_
      refine X.l ?_
      refine X.a ?_
      refine X.w ?_
      refine X.w ?_
      refine X.w ?_
      refine X.rq ?_
      refine K.s_pure (K.p_lss rfl rfl) rfl ?_
      rw [decide_eq_false (show ¬ (n : Int) < 4294967295 by omega)]
      (repeat' (first | refine X.rq ?_ | (refine X.rc ?_ ?_ <;> intro hc <;> first | (exfalso; omega) | skip)))
      refine X.sto ?_
      simp only [List.set_cons_zero, List.set_cons_succ, List.eraseIdx_cons_zero, List.eraseIdx_cons_succ, List.cons_append, List.nil_append]
      (repeat' (first | refine X.rq ?_ | (refine X.rc ?_ ?_ <;> intro hc <;> first | (exfalso; omega) | skip)))
      rw [hmx2]
      refine K.AT.sel [0] rfl ?_
      refine Ch.AT.freezeRowE ((insK PLive.txn ⟨n, lsn, 0, true⟩ d).map cL) ?_ ?_ (four_L _) (fun h2 le2 hsl => ?_)
      · rw [hq]; simp <;> omega
      · rw [hq, ← ins_flat]
      refine K.done (by first | exact Or.inl rfl | exact Or.inr rfl) rfl (by first | exact K.Base.le.refl _ | assumption) (H' := [stR B (bufV a5 _ c5) dv (max nx n)]) rfl ⟨rfl, _, rfl, hsl⟩
/-- Where a live transaction is; -1: it is none. -/
def idxK (l : List PLive) (n : Nat) : Int := match l.findIdx? fun x => decide (x.txn = n) with
  | some i => (i : Int)
  | none => -1
theorem idx_some {l : List PLive} {n i : Nat} {x : PLive} (hx : l[i]? = some x) (he : x.txn = n) (hb : ∀ j y, j < i → l[j]? = some y → y.txn ≠ n) : idxK l n = i ∧ findK PLive.txn l n = some x := by
  obtain ⟨hi, hxe⟩ := List.getElem?_eq_some_iff.1 hx
  have h1 : l.findIdx? (fun x => decide (x.txn = n)) = some i := by
    rw [List.findIdx?_eq_some_iff_getElem]
    refine ⟨hi, by rw [hxe]; exact decide_eq_true he, fun j hj => ?_⟩
    have := hb j _ hj (List.getElem?_eq_getElem (by omega))
    simpa using this
  refine ⟨by unfold idxK; rw [h1], ?_⟩
  unfold findK
  rw [List.find?_eq_some_iff_getElem]
  refine ⟨by simpa using he, i, hi, hxe, fun j hj => ?_⟩
  have := hb j _ hj (List.getElem?_eq_getElem (by omega))
  simpa using this
theorem idx_none {l : List PLive} {n : Nat} (hb : ∀ (j : Nat) (y : PLive), l[j]? = some y → y.txn ≠ n) : idxK l n = -1 ∧ findK PLive.txn l n = none := by
  have h1 : l.findIdx? (fun x => decide (x.txn = n)) = none := by
    rw [List.findIdx?_eq_none_iff]
    intro x hx
    obtain ⟨j, hj⟩ := List.mem_iff_getElem?.1 hx
    exact decide_eq_false (hb j x hj)
  refine ⟨by unfold idxK; rw [h1], ?_⟩
  unfold findK
  rw [List.find?_eq_none]
  intro x hx
  obtain ⟨j, hj⟩ := List.mem_iff_getElem?.1 hx
  have := hb j x hj
  simpa using this
set_option maxHeartbeats 8000000 in
theorem RAt (h : Base) (B nx n : Nat) (lv dv : Value) (d : List PLive) (hd : SL h 4 lv (d.map cL)) (hl : d.length ≤ 9223372036854775807) :
    TrV Tryz.prog 62 [stP B, .int .u32 n] h [stR B lv dv nx] (.int .i64 (idxK d n)) [stR B lv dv nx] := by
  obtain ⟨ao, ca, rfl⟩ := hd.len
  rw [List.length_map] at hd ⊢
  refine K.enter Tryz.func62 rfl (Nat.le_of_ble_eq_true rfl) (fun F => ?_)
  simp only [List.nil_append, List.cons_append]
  (repeat' (first | refine X.rq ?_ | (refine X.rc ?_ ?_ <;> intro hc <;> first | (exfalso; omega) | skip)))
  refine K.c_loop (σ := Nat) (fun j => [(0, stP B), (1, .int .u32 n), (5, .int .i64 j)]) (fun _ => h) (fun _ => stR B (.slice ao d.length ca) dv nx :: F)
    (fun j => j ≤ d.length ∧ ∀ i y, i < j → d[i]? = some y → y.txn ≠ n) (fun j => d.length - j) 0 ⟨Nat.zero_le _, (fun i y hi => absurd hi (Nat.not_lt_zero _))⟩ (by repeat (first | exact K.Sub.nil _ | refine K.Sub.cons rfl ?_)) rfl rfl ?_
  rintro j ⟨hj, hno⟩ KL hKL
  have hno := fun (_ : Unit) => hno
  by_cases hjl : j < d.length
  · have hx1 : d[j]? = some (d[j]'hjl) := List.getElem?_eq_getElem hjl
    have hc0 : (d.map cL)[((j : Nat) : Int).toNat]? = some (cL (d[j]'hjl)) := by rw [Int.toNat_natCast, List.getElem?_map, hx1]; rfl
    generalize d[j]'hjl = x at hx1 hc0
    (repeat' (first | refine X.rq ?_ | (refine X.rc ?_ ?_ <;> intro hc <;> first | (exfalso; omega) | skip)))
    refine K.s_pureE (K.p_indexL hd (Fx.und rfl) (Fx.sz rfl) rfl rfl (by omega) hc0) rfl ?_
    rintro v2 ⟨b2, o2, rfl, hcel⟩
    have hcl := Cels.get (Cels.up (K := stR B (.slice ao d.length ca) dv nx :: F) hcel) 0 (.int .u32 x.txn) rfl
    by_cases he : x.txn = n
    · obtain ⟨hi1, _⟩ := idx_some hx1 he (hno ())
      rw [hi1]
      (repeat' (first | refine X.rq ?_ | (refine X.rc ?_ ?_ <;> intro hc <;> first | (exfalso; omega) | skip)))
      refine K.done (by first | exact Or.inl rfl | exact Or.inr rfl) rfl (by first | exact K.Base.le.refl _ | assumption) (H' := [stR B (.slice ao d.length ca) dv nx]) rfl ⟨rfl, rfl, rfl⟩
    · (repeat' (first | refine X.rq ?_ | (refine X.rc ?_ ?_ <;> intro hc <;> first | (exfalso; omega) | skip)))
      refine K.a_round hKL (j + 1) ⟨by omega, fun i y hi hy => ?_⟩ (by repeat (first | exact K.Sub.nil _ | refine K.Sub.cons rfl ?_)) rfl rfl (by omega)
      by_cases hij : i = j
      · subst hij; rw [hx1] at hy; obtain rfl := Option.some.inj hy; exact he
      · exact hno () i y (by omega) hy
  · obtain rfl : j = d.length := by omega
    obtain ⟨hi1, _⟩ := idx_none (l := d) (n := n) fun i y hy => hno () i y (List.getElem?_eq_some_iff.1 hy).1 hy
    rw [hi1]
    clear hno
    (repeat' (first | refine X.rq ?_ | (refine X.rc ?_ ?_ <;> intro hc <;> first | (exfalso; omega) | skip)))
    refine K.done (by first | exact Or.inl rfl | exact Or.inr rfl) rfl (by first | exact K.Base.le.refl _ | assumption) (H' := [stR B (.slice ao d.length ca) dv nx]) rfl ⟨rfl, rfl, rfl⟩
end Go.Proofs.YtkdngpiiecmpgaaGreat.Ch

/-! A record is heard: the document. Conditions: each theorem's own. -/
namespace Go.Proofs.YtkdngpiiecmpgaaGreat.Ch
open Go Go.K Go.Proofs Go.Proofs.YtkdngpiiecmpgaaGreat Go.Proofs.YtkdngpiiecmpgaaGreat.Pg Go.Proofs.YtkdngpiiecmpgaaGreat.Rc
set_option linter.unusedVariables false
set_option linter.unusedSimpArgs false
set_option maxRecDepth 10000

structure WfS (s : St) : Prop where
  rl : Rising PLive.txn s.lives
  rd : Rising PDirty.page s.dirty
  wl : ∀ x ∈ s.lives, wfL x
  wd : ∀ x ∈ s.dirty, wfD x
  wn : s.next < 4294967296
theorem WfS.put {s : St} (h : WfS s) {x : PLive} (hx : wfL x) : WfS { s with lives := insK PLive.txn x s.lives } :=
  ⟨h.rl.ins, h.rd, fun z hz => by
    rcases mem_ins hz with rfl | hz
    · exact hx
    · exact h.wl z hz, h.wd, h.wn⟩
theorem WfS.next {s : St} (h : WfS s) {n : Nat} (hn : n < 4294967296) : WfS { s with next := n } := ⟨h.rl, h.rd, h.wl, h.wd, hn⟩
theorem WfS.del {s : St} (h : WfS s) (n : Nat) : WfS { s with lives := delK PLive.txn s.lives n } := ⟨h.rl.del n, h.rd, fun z hz => h.wl z (List.mem_filter.1 hz).1, h.wd, h.wn⟩
theorem WfS.touch {s : St} (h : WfS s) {n lsn : Nat} (hn : n < 4294967296) (hl : lsn < 18446744073709551616) : WfS { s with dirty := touchQ s.dirty n lsn } := by
  refine ⟨h.rl, ?_, h.wl, ?_, h.wn⟩
  · show Rising PDirty.page (touchQ s.dirty n lsn)
    unfold touchQ
    split
    · exact h.rd
    · exact h.rd.ins
  · show ∀ x ∈ touchQ s.dirty n lsn, wfD x
    unfold touchQ
    split
    · exact h.wd
    · intro z hz
      rcases mem_ins hz with rfl | hz
      · exact ⟨hn, hl⟩
      · exact h.wd z hz
theorem WfS.touches {lsn : Nat} (hl : lsn < 18446744073709551616) : ∀ {ms : List PImg} {s : St}, WfS s → (∀ x ∈ ms, x.page < 4294967296) → WfS { s with dirty := ms.foldl (fun d x => touchQ d x.page lsn) s.dirty }
  | [], s, h, _ => h
  | m :: ms, s, h, hp => WfS.touches hl (ms := ms) (h.touch (hp m (List.mem_cons_self ..)) hl) fun x hx => hp x (List.mem_cons_of_mem _ hx)
theorem ins_set {α : Type} {k : α → Nat} {x y : α} : ∀ {l : List α} {i : Nat}, Rising k l → l[i]? = some y → k y = k x → insK k x l = l.set i x
  | [], i, _, hy, _ => by simp at hy
  | z :: l, 0, _, hy, he => by
    obtain rfl := Option.some.inj hy
    rw [insK, if_neg (by omega), if_pos he]
    rfl
  | z :: l, i + 1, hr, hy, he => by
    have hl := List.pairwise_cons.1 hr
    have := hl.1 y (List.mem_of_getElem? (show l[i]? = some y from hy))
    rw [insK, if_pos (by omega), ins_set (i := i) hl.2 hy he]
    rfl
theorem del_at {α : Type} {k : α → Nat} {y : α} : ∀ {l : List α} {i n : Nat}, Rising k l → l[i]? = some y → k y = n → delK k l n = l.take i ++ l.drop (i + 1)
  | [], i, _, _, hy, _ => by simp at hy
  | z :: l, 0, n, hr, hy, he => by
    obtain rfl := Option.some.inj hy
    have hl := List.pairwise_cons.1 hr
    show List.filter _ (z :: l) = _
    rw [List.filter_cons, if_neg (by simp [he])]
    show List.filter _ l = l
    rw [List.filter_eq_self]
    intro a ha
    have := hl.1 a ha
    simp; omega
  | z :: l, i + 1, n, hr, hy, he => by
    have hl := List.pairwise_cons.1 hr
    have hlt := hl.1 y (List.mem_of_getElem? (show l[i]? = some y from hy))
    have ih := del_at (i := i) (n := n) hl.2 hy he
    show List.filter _ (z :: l) = _
    rw [List.filter_cons, if_pos (by simp; omega)]
    unfold delK at ih
    rw [ih]
    rfl
/-- The state's memory. -/
structure StR (h : Base) (lv dv : Value) (s : St) : Prop where
  l : SL h 4 lv (s.lives.map cL)
  d : SL h 2 dv (s.dirty.map cD)
theorem StR.le {h h' : Base} {lv dv : Value} {s : St} (hs : StR h lv dv s) (hle : h.le h') : StR h' lv dv s := ⟨hs.l.le hle, hs.d.le hle⟩
/-- What a record that is heard leaves behind. -/
def HeardR (B : Nat) (s : St) (r : Recd) (u : Value) (h' : Base) (H' : List Asrt) : Prop :=
  ∃ ok lv' dv' nx', u = .bool ok ∧ H' = [stR B lv' dv' nx'] ∧ (ok = true → ∃ s', hearQ s r = some s' ∧ StR h' lv' dv' s' ∧ WfS s' ∧ nx' = s'.next) ∧ (ok = false → hearQ s r = none)
structure TcR where
  j : Nat
  dv : Value
  b : Base
set_option maxHeartbeats 16000000 in
theorem RHear (h : Base) (B : Nat) (lv dv : Value) (s : St) (hs : StR h lv dv s) (hw0 : WfS s) (cs : List Value) (r : Recd) (hx : RecC h cs r) :
    Tr Tryz.prog 37 [stP B, .agg cs.toArray] h [stR B lv dv s.next] (HeardR B s r) := by
  obtain ⟨hw, ad, ai, al, ay, cd, ci, cl, cy, rfl, hb, ⟨es, hi1, hi2, hi3⟩, hl4, hd2⟩ := hx.cells
  have hlsn := hw.lsn
  have htx := hw.txn
  have hpg := hw.page
  have hru := hw.undo
  have hrp := hw.prev
  have himl := hw.images
  have hfl := rising_few hw0.rl (N := 4294967296) fun x hx => (hw0.wl x hx).txn
  have hfd := rising_few hw0.rd (N := 4294967296) fun x hx => (hw0.wd x hx).page
  have hwn := hw0.wn
  refine K.enter Tryz.func37 rfl (Nat.le_of_ble_eq_true rfl) (fun F => ?_)
  simp only [List.nil_append, List.cons_append]
  (repeat' (first | refine X.rq ?_ | (refine X.rc ?_ ?_ <;> intro hc <;> first | (exfalso; omega) | skip)))
  refine K.l_box rfl rfl rfl (fun B3 => ?_)
  by_cases hk8 : r.kind = 8
  · have hq : hearQ s r = some s := by unfold hearQ; rw [if_pos hk8]
    (repeat' (first | refine X.rq ?_ | (refine X.rc ?_ ?_ <;> intro hc <;> first | (exfalso; omega) | skip)))
    refine K.AT.drop ?_
    refine K.done (by first | exact Or.inl rfl | exact Or.inr rfl) rfl (by first | exact K.Base.le.refl _ | assumption) (H' := [stR B lv dv s.next]) rfl ⟨true, lv, dv, s.next, rfl, rfl, (fun _ => ⟨s, hq, hs, hw0, rfl⟩), fun e => by cases e⟩
  by_cases hk4 : r.kind = 4
  · have hq : hearQ s r = some { s with dirty := r.images.foldl (fun d x => touchQ d x.page r.lsn) s.dirty } := by unfold hearQ; rw [if_neg hk8, if_pos hk4]
    have hi3 := fun (_ : Unit) => hi3
    have himg := fun (_ : Unit) => (show ∀ x ∈ r.images, x.page < 4294967296 from fun x hx => by
      obtain ⟨j, hj⟩ := List.mem_iff_getElem?.1 hx
      have hjl := (List.getElem?_eq_some_iff.1 hj).1
      exact (hi3 () j (es[j]'(by omega)) x (List.getElem?_eq_getElem (by omega)) hj).1)
    clear hx hw
    (repeat' (first | refine X.rq ?_ | (refine X.rc ?_ ?_ <;> intro hc <;> first | (exfalso; omega) | skip)))
    refine K.WC.perm (K.pp [1, 0] rfl) ?_
    simp only [List.cons_append, List.nil_append]
    refine K.c_loop (σ := TcR) (fun q => [(0, stP B), (3, .pointer (some ⟨B3, 0, none⟩)), (5, .int .i64 q.j)]) (fun q => q.b)
      (fun q => stR B lv q.dv s.next :: blk B3 63 (cR r (.slice ad r.op.data.length cd) (.slice ai r.images.length ci) (.slice al r.lives.length cl) (.slice ay r.dirty.length cy)) :: F)
      (fun q => q.j ≤ r.images.length ∧ h.le q.b ∧ SL q.b 2 q.dv (((r.images.take q.j).foldl (fun d x => touchQ d x.page r.lsn) s.dirty).map cD)) (fun q => r.images.length - q.j) ⟨0, dv, h⟩ ⟨Nat.zero_le _, .refl _, hs.d⟩ (by repeat (first | exact K.Sub.nil _ | refine K.Sub.cons rfl ?_)) rfl rfl ?_
    rintro ⟨j, dv1, h1⟩ ⟨hj, le1, hd1⟩ KL hKL
    dsimp only at hj le1 hd1 ⊢
    by_cases hjl : j < r.images.length
    · have hc1 : es[j]? = some (es[j]'(by omega)) := List.getElem?_eq_getElem (by omega)
      have hc0 : es[((j : Nat) : Int).toNat]? = some (es[j]'(by omega)) := by rw [Int.toNat_natCast]; exact hc1
      have hx1 : r.images[j]? = some (r.images[j]'hjl) := List.getElem?_eq_getElem hjl
      generalize es[j]'(by omega) = c at hc0 hc1
      generalize r.images[j]'hjl = x at hx1
      obtain ⟨hxg, pcs, rfl, hpc⟩ := hi3 () j c x hc1 hx1
      obtain ⟨_, cv, rfl, es5, hv5, _⟩ := hpc
      obtain ⟨ao5, ca5, rfl⟩ := hv5.len
      have hwj := WfS.touches hlsn (ms := r.images.take j) hw0 fun x hx => himg () x (List.mem_of_mem_take hx)
      have htou := RTouch h1 B s.next x.page r.lsn lv dv1 _ hd1 hwj.rd hwj.wd hxg hlsn
      have hnx : (r.images.take (j + 1)).foldl (fun d x => touchQ d x.page r.lsn) s.dirty = touchQ ((r.images.take j).foldl (fun d x => touchQ d x.page r.lsn) s.dirty) x.page r.lsn := by
        rw [List.take_add_one, hx1, List.foldl_append]; rfl
      have hi1' := hi1.le le1
      (repeat' (first | refine X.rq ?_ | (refine X.rc ?_ ?_ <;> intro hc <;> first | (exfalso; omega) | skip)))
      refine X.draw ([blk B3 63 (cR r (.slice ad r.op.data.length cd) (.slice ai r.images.length ci) (.slice al r.lives.length cl) (.slice ay r.dirty.length cy))]) [] (.pu 0 (.pu 1 (.pu 3 (.pu 7 (.st 2 (.st 4 (.pu 5 (.st 6 (.st 8 (.on 9 .nil)))))))))) ?_
      refine K.d_pu rfl (fun _ _ => X.mv) rfl ?_
      refine K.d_pu rfl (fun _ _ => X.fa) rfl ?_
      refine K.d_pu rfl (fun _ _ => X.mv) rfl ?_
      refine K.d_pu rfl (fun _ _ => X.fa) rfl ?_
      refine K.d_st rfl X.ld rfl ?_
      refine K.d_stE rfl (K.p_indexL hi1' (Fx.und rfl) (Fx.sz rfl) rfl rfl (by omega) hc0) rfl ?_
      rintro v2 ⟨b2, o2, rfl, hcel⟩
      refine K.d_pu rfl (fun _ _ => X.fa) rfl ?_
      refine K.d_st rfl (K.p_load (Fx.agg rfl) rfl (Cels.get (Cels.up hcel) 0 (.int .u32 x.page) rfl)) rfl ?_
      refine K.d_st rfl X.ld rfl ?_
      refine K.d_on rfl (fun KK hKK => ?_)
      refine K.l_call (Fx.cal rfl) rfl htou (K.pp [0] rfl) rfl ?_
      rintro u h2 H' le2 ⟨rfl, dv2, rfl, hd2⟩
      simp only [List.nil_append, List.cons_append]
      refine K.l_nil ?_
      refine X.onE hKK ?_
      refine K.d_nil ?_
      (repeat' (first | refine X.rq ?_ | (refine X.rc ?_ ?_ <;> intro hc <;> first | (exfalso; omega) | skip)))
      refine K.a_round hKL ⟨j + 1, dv2, h2⟩ ⟨by dsimp only; omega, le1.trans le2, by dsimp only; rw [hnx]; exact hd2⟩ (by repeat (first | exact K.Sub.nil _ | refine K.Sub.cons rfl ?_)) rfl rfl (by dsimp only; omega)
    · obtain rfl : j = r.images.length := by omega
      rw [List.take_length] at hd1
      have hwf := WfS.touches hlsn hw0 (himg ())
      (repeat' (first | refine X.rq ?_ | (refine X.rc ?_ ?_ <;> intro hc <;> first | (exfalso; omega) | skip)))
      refine K.AT.sel [1] rfl ?_
      refine K.done (by first | exact Or.inl rfl | exact Or.inr rfl) rfl (by first | exact K.Base.le.refl _ | assumption) (H' := [stR B lv dv1 s.next]) rfl ⟨true, lv, dv1, s.next, rfl, rfl, (fun _ => ⟨_, hq, ⟨hs.l.le le1, hd1⟩, hwf, rfl⟩), fun e => by cases e⟩
  have hat := RAt h B s.next r.txn lv dv s.lives hs.l (by omega)
  obtain ⟨la, lc, rfl⟩ := hs.l.len
  have hsl := hs.l
  rw [List.length_map] at hsl hat ⊢
  clear hi3 hx
  (repeat' (first | refine X.rq ?_ | (refine X.rc ?_ ?_ <;> intro hc <;> first | (exfalso; omega) | skip)))
  refine K.l_callV (Fx.cal rfl) rfl hat (K.pp [1] rfl) rfl rfl ?_
  simp only [List.nil_append, List.cons_append, List.eraseIdx_cons_zero, List.eraseIdx_cons_succ]
  have hgot : (idxK s.lives r.txn = -1 ∧ findK PLive.txn s.lives r.txn = none) ∨ ∃ (i : Nat) (x : PLive), idxK s.lives r.txn = i ∧ s.lives[i]? = some x ∧ x.txn = r.txn ∧ findK PLive.txn s.lives r.txn = some x ∧ wfL x := by
    cases hf : findK PLive.txn s.lives r.txn with
    | none =>
      refine .inl ⟨(idx_none fun j y hy e => ?_).1, rfl⟩
      have := mem_findK hw0.rl (List.mem_of_getElem? hy)
      rw [e, hf] at this; cases this
    | some x =>
      obtain ⟨hxm, hxt⟩ := findK_mem hf
      obtain ⟨i, hi⟩ := List.mem_iff_getElem?.1 hxm
      refine .inr ⟨i, x, (idx_some hi hxt fun j y hji hy e => ?_).1, hi, hxt, rfl, hw0.wl x hxm⟩
      have := rise_lt hw0.rl hji hy hi
      omega
  by_cases hk1 : r.kind = 1
  · rcases hgot with ⟨hg, hf⟩ | ⟨i, x, hg, hi, hxt, hf, _⟩
    · have hq : hearQ s r = some { s with lives := insK PLive.txn ⟨r.txn, r.lsn, 0, true⟩ s.lives, next := max s.next (if r.txn < 4294967295 then r.txn + 1 else r.txn) } := by
        unfold hearQ
        rw [if_neg hk8, if_neg hk4, if_pos hk1, hf]
        rfl
      have hbe := RBegin h B s.next r.txn r.lsn (.slice la s.lives.length lc) dv s.lives hsl hw0.rl hw0.wl htx hlsn hf hwn
      have hwf := (hw0.put (x := ⟨r.txn, r.lsn, 0, true⟩) ⟨htx, hlsn, (by decide : (0 : Nat) < 18446744073709551616)⟩).next (n := max s.next (if r.txn < 4294967295 then r.txn + 1 else r.txn)) (by split <;> omega)
      rw [hg]
      (repeat' (first | refine X.rq ?_ | (refine X.rc ?_ ?_ <;> intro hc <;> first | (exfalso; omega) | skip)))
      refine K.l_call (Fx.cal rfl) rfl hbe (K.pp [0] rfl) rfl ?_
      rintro u h2 H' le2 ⟨rfl, lv2, rfl, hl2⟩
      simp only [List.nil_append, List.cons_append]
      (repeat' (first | refine X.rq ?_ | (refine X.rc ?_ ?_ <;> intro hc <;> first | (exfalso; omega) | skip)))
      refine K.AT.sel [1] rfl ?_
      refine K.done (by first | exact Or.inl rfl | exact Or.inr rfl) rfl (by first | exact K.Base.le.refl _ | assumption) (H' := [stR B lv2 dv (max s.next (if r.txn < 4294967295 then r.txn + 1 else r.txn))]) rfl ⟨true, lv2, dv, _, rfl, rfl, (fun _ => ⟨_, hq, ⟨hl2, hs.d.le le2⟩, hwf, rfl⟩), fun e => by cases e⟩
    · have hq : hearQ s r = none := by
        unfold hearQ
        rw [if_neg hk8, if_neg hk4, if_pos hk1, hf]
        rfl
      rw [hg]
      (repeat' (first | refine X.rq ?_ | (refine X.rc ?_ ?_ <;> intro hc <;> first | (exfalso; omega) | skip)))
      refine K.AT.sel [1] rfl ?_
      refine K.done (by first | exact Or.inl rfl | exact Or.inr rfl) rfl (by first | exact K.Base.le.refl _ | assumption) (H' := [stR B (.slice la s.lives.length lc) dv s.next]) rfl ⟨false, _, _, _, rfl, rfl, (fun e => by cases e), fun _ => hq⟩
  rcases hgot with ⟨hg, hf⟩ | ⟨i, x, hg, hi, hxt, hf, hwx⟩
  · have hq : hearQ s r = none := by unfold hearQ; rw [if_neg hk8, if_neg hk4, if_neg hk1, hf]
    rw [hg]
    (repeat' (first | refine X.rq ?_ | (refine X.rc ?_ ?_ <;> intro hc <;> first | (exfalso; omega) | skip)))
    refine X.draw ([stR B (.slice la s.lives.length lc) dv s.next, blk B3 63 (cR r (.slice ad r.op.data.length cd) (.slice ai r.images.length ci) (.slice al r.lives.length cl) (.slice ay r.dirty.length cy))]) [] (.pu 0 (.pu 1 (.pu 2 (.pu 3 (.pu 4 (.pu 5 (.pu 7 (.pu 11 (.st 6 (.pu 8 (.pu 9 (.st 10 (.st 12 (.pu 13 (.pu 14 .nil))))))))))))))) ?_
    refine K.d_pu rfl (fun _ _ => X.mv) rfl ?_
    refine K.d_pu rfl (fun _ _ => X.blss) rfl ?_
    refine K.d_pu rfl (fun _ _ => X.mv) rfl ?_
    first | refine K.d_skip rfl rfl rfl rfl ?_ | refine K.d_skipU rfl rfl rfl rfl rfl ?_ | refine K.d_puG rfl rfl rfl (fun _ _ => X.mv) rfl ?_
    first | refine K.d_skip rfl rfl rfl rfl ?_ | refine K.d_skipU rfl rfl rfl rfl rfl ?_ | refine K.d_puG rfl rfl rfl (fun _ _ => X.nc) rfl ?_
    first | refine K.d_skip rfl rfl rfl rfl ?_ | refine K.d_skipU rfl rfl rfl rfl rfl ?_ | refine K.d_puG rfl rfl rfl (fun _ _ => X.fa) rfl ?_
    first | refine K.d_skip rfl rfl rfl rfl ?_ | refine K.d_skipU rfl rfl rfl rfl rfl ?_ | refine K.d_puG rfl rfl rfl (fun _ _ => X.mv) rfl ?_
    first | refine K.d_skip rfl rfl rfl rfl ?_ | refine K.d_skipU rfl rfl rfl rfl rfl ?_ | refine K.d_puG rfl rfl rfl (fun _ _ => X.fa) rfl ?_
    first | refine K.d_skipS rfl rfl rfl rfl ?_ | refine K.d_skipUS rfl rfl rfl rfl rfl ?_ | refine K.d_stG rfl rfl rfl X.ld rfl ?_
    first | refine K.d_skip rfl rfl rfl rfl ?_ | refine K.d_skipU rfl rfl rfl rfl rfl ?_ | refine K.d_puG rfl rfl rfl (fun _ _ => X.ia) rfl ?_
    first | refine K.d_skip rfl rfl rfl rfl ?_ | refine K.d_skipU rfl rfl rfl rfl rfl ?_ | refine K.d_puG rfl rfl rfl (fun _ _ => X.fa) rfl ?_
    first | refine K.d_skipS rfl rfl rfl rfl ?_ | refine K.d_skipUS rfl rfl rfl rfl rfl ?_ | refine K.d_stG rfl rfl rfl X.ld rfl ?_
    first | refine K.d_skipS rfl rfl rfl rfl ?_ | refine K.d_skipUS rfl rfl rfl rfl rfl ?_ | refine K.d_stG rfl rfl rfl X.ld rfl ?_
    first | refine K.d_skip rfl rfl rfl rfl ?_ | refine K.d_skipU rfl rfl rfl rfl rfl ?_ | refine K.d_puG rfl rfl rfl (fun _ _ => X.bneq) rfl ?_
    refine K.d_pu rfl (fun _ _ => X.pk) rfl ?_
    refine K.d_nil ?_
    (repeat' (first | refine X.rq ?_ | (refine X.rc ?_ ?_ <;> intro hc <;> first | (exfalso; omega) | skip)))
    refine K.AT.sel [1] rfl ?_
    refine K.done (by first | exact Or.inl rfl | exact Or.inr rfl) rfl (by first | exact K.Base.le.refl _ | assumption) (H' := [stR B (.slice la s.lives.length lc) dv s.next]) rfl ⟨false, _, _, _, rfl, rfl, (fun e => by cases e), fun _ => hq⟩
  rw [hg]
  have hlp := hwx.last
  have hup := hwx.undo
  obtain ⟨hil, _⟩ := List.getElem?_eq_some_iff.1 hi
  have hci : (s.lives.map cL)[i]? = some (cL x) := by rw [List.getElem?_map, hi]; rfl
  obtain ⟨bb, oo, rfl, hcx⟩ := hsl.at hci
  obtain ⟨wt, wl, wu, wo⟩ := x
  dsimp only at hxt hlp hup
  subst hxt
  have hq0 : hearQ s r = if wl ≠ r.prev then none else if r.kind = 7 then if wu = 0 then some { s with lives := delK PLive.txn s.lives r.txn } else none else if wo = false then none else if r.kind = 2 then some { s with lives := insK PLive.txn ⟨r.txn, r.lsn, r.lsn, wo⟩ s.lives, dirty := touchQ s.dirty r.page r.lsn } else if r.kind = 3 then if wu ≤ r.undo then none else some { s with lives := insK PLive.txn ⟨r.txn, r.lsn, r.undo, wo⟩ s.lives, dirty := touchQ s.dirty r.page r.lsn } else if r.kind = 5 then some { s with lives := insK PLive.txn ⟨r.txn, r.lsn, 0, false⟩ s.lives } else some { s with lives := insK PLive.txn ⟨r.txn, r.lsn, wu, wo⟩ s.lives } := by
    unfold hearQ
    rw [if_neg hk8, if_neg hk4, if_neg hk1, hf]
  clear hf hwx hat
  (repeat' (first | refine X.rq ?_ | (refine X.rc ?_ ?_ <;> intro hc <;> first | (exfalso; omega) | skip)))
  refine X.draw ([stR B (.slice (some ⟨bb, oo, none⟩) s.lives.length lc) dv s.next, blk B3 63 (cR r (.slice ad r.op.data.length cd) (.slice ai r.images.length ci) (.slice al r.lives.length cl) (.slice ay r.dirty.length cy))]) [] (.pu 0 (.pu 1 (.pu 2 (.pu 3 (.pu 4 (.pu 5 (.pu 7 (.pu 11 (.st 6 (.pu 8 (.pu 9 (.st 10 (.st 12 (.pu 13 (.pu 14 .nil))))))))))))))) ?_
  refine K.d_pu rfl (fun _ _ => X.mv) rfl ?_
  refine K.d_pu rfl (fun _ _ => X.blss) rfl ?_
  refine K.d_pu rfl (fun _ _ => X.mv) rfl ?_
  first | refine K.d_skip rfl rfl rfl rfl ?_ | refine K.d_skipU rfl rfl rfl rfl rfl ?_ | refine K.d_puG rfl rfl rfl (fun _ _ => X.mv) rfl ?_
  first | refine K.d_skip rfl rfl rfl rfl ?_ | refine K.d_skipU rfl rfl rfl rfl rfl ?_ | refine K.d_puG rfl rfl rfl (fun _ _ => X.nc) rfl ?_
  first | refine K.d_skip rfl rfl rfl rfl ?_ | refine K.d_skipU rfl rfl rfl rfl rfl ?_ | refine K.d_puG rfl rfl rfl (fun _ _ => X.fa) rfl ?_
  first | refine K.d_skip rfl rfl rfl rfl ?_ | refine K.d_skipU rfl rfl rfl rfl rfl ?_ | refine K.d_puG rfl rfl rfl (fun _ _ => X.mv) rfl ?_
  first | refine K.d_skip rfl rfl rfl rfl ?_ | refine K.d_skipU rfl rfl rfl rfl rfl ?_ | refine K.d_puG rfl rfl rfl (fun _ _ => X.fa) rfl ?_
  first | refine K.d_skipS rfl rfl rfl rfl ?_ | refine K.d_skipUS rfl rfl rfl rfl rfl ?_ | refine K.d_stG rfl rfl rfl X.ld rfl ?_
  first | refine K.d_skip rfl rfl rfl rfl ?_ | refine K.d_skipU rfl rfl rfl rfl rfl ?_ | refine K.d_puG rfl rfl rfl (fun _ _ => X.ia) rfl ?_
  first | refine K.d_skip rfl rfl rfl rfl ?_ | refine K.d_skipU rfl rfl rfl rfl rfl ?_ | refine K.d_puG rfl rfl rfl (fun _ _ => X.fa) rfl ?_
  refine K.d_stG rfl rfl rfl (K.p_load (Fx.agg rfl) rfl (Cels.get (Cels.up hcx) 1 (.int .u64 wl) rfl)) rfl ?_
  first | refine K.d_skipS rfl rfl rfl rfl ?_ | refine K.d_skipUS rfl rfl rfl rfl rfl ?_ | refine K.d_stG rfl rfl rfl X.ld rfl ?_
  first | refine K.d_skip rfl rfl rfl rfl ?_ | refine K.d_skipU rfl rfl rfl rfl rfl ?_ | refine K.d_puG rfl rfl rfl (fun _ _ => X.bneq) rfl ?_
  refine K.d_pu rfl (fun _ _ => X.pk) rfl ?_
  refine K.d_nil ?_
  by_cases hfol : wl ≠ r.prev
  · rw [if_pos hfol] at hq0
    (repeat' (first | refine X.rq ?_ | (refine X.rc ?_ ?_ <;> intro hc <;> first | (exfalso; omega) | skip)))
    refine K.AT.sel [1] rfl ?_
    refine K.done (by first | exact Or.inl rfl | exact Or.inr rfl) rfl (by first | exact K.Base.le.refl _ | assumption) (H' := [stR B (.slice (some ⟨bb, oo, none⟩) s.lives.length lc) dv s.next]) rfl ⟨false, _, _, _, rfl, rfl, (fun e => by cases e), fun _ => hq0⟩
  rw [if_neg hfol] at hq0
  have hfol : wl = r.prev := Classical.not_not.1 hfol
  (repeat' (first | refine X.rq ?_ | (refine X.rc ?_ ?_ <;> intro hc <;> first | (exfalso; omega) | skip)))
  have hcx2 : Cels h [] bb (oo + i * 4) [.int .u32 r.txn, .int .u64 wl, .int .u64 wu, .bool wo] := hcx
  refine K.s_pure (K.p_loadM (Fx.agg rfl) rfl (Cels.up hcx2) (Fx.sz rfl) rfl) rfl ?_
  refine K.l_alloc (Fx.zr rfl) rfl rfl (fun B7 => ?_)
  refine X.stw ?_
  simp only [List.set_cons_zero, List.set_cons_succ, List.eraseIdx_cons_zero, List.eraseIdx_cons_succ, List.cons_append, List.nil_append]
  by_cases hk7 : r.kind = 7
  · rw [if_pos hk7] at hq0
    have hdl : delK PLive.txn s.lives r.txn = s.lives.take i ++ s.lives.drop (i + 1) := del_at hw0.rl hi rfl
    have hml : (s.lives.map cL).length = s.lives.length := List.length_map ..
    have hwf := hw0.del r.txn
    (repeat' (first | refine X.rq ?_ | (refine X.rc ?_ ?_ <;> intro hc <;> first | (exfalso; omega) | skip)))
    refine K.s_pureE (K.p_sliceL (k1 := .i64) (k2 := .i64) (p := 0) (q := i) hsl (Fx.und rfl) (Fx.sz rfl) rfl rfl ⟨_, rfl, rfl⟩ (Nat.zero_le _) (by rw [hml]; omega)) rfl ?_
    intro v78 hv78
    have hs1 := fun KK => hv78.src (P := Tryz.prog) (K := KK) (fun e he => ones_L s.lives e (List.mem_of_mem_take (List.mem_of_mem_drop he)))
    have hl1 : (((s.lives.map cL).take i).drop 0).length = i := by simp; omega
    have hl2 : (((s.lives.map cL).take (s.lives.map cL).length).drop (i + 1)).length = s.lives.length - (i + 1) := by simp
    rw [hl1] at hs1
    refine K.WL.nilBuf 38 4 ?_
    refine K.l_append_at 0 rfl (Fx.und rfl) (Fx.und rfl) rfl (Fx.sz rfl) (Fx.zr rfl) rfl (Fx.byt rfl) rfl rfl (hs1 _) (by omega) (by omega) rfl (fun a3 c3 => ?_)
    simp only [List.set_cons_zero, List.set_cons_succ, List.eraseIdx_cons_zero, List.eraseIdx_cons_succ, List.cons_append, List.nil_append]
    (repeat' (first | refine X.rq ?_ | (refine X.rc ?_ ?_ <;> intro hc <;> first | (exfalso; omega) | skip)))
    refine K.s_pureE (K.p_sliceL (k1 := .i64) (k2 := .i64) (p := i + 1) (q := (s.lives.map cL).length) hsl (Fx.und rfl) (Fx.sz rfl) rfl ⟨_, rfl, by omega⟩ rfl (by rw [hml]; omega) (Nat.le_refl _)) rfl ?_
    intro v88 hv88
    have hs2 := fun KK => hv88.src (P := Tryz.prog) (K := KK) (fun e he => ones_L s.lives e (List.mem_of_mem_take (List.mem_of_mem_drop he)))
    rw [hl2] at hs2
    refine K.l_append_at 0 rfl (Fx.und rfl) (Fx.und rfl) rfl (Fx.sz rfl) (Fx.zr rfl) rfl (Fx.byt rfl) rfl rfl (hs2 _) (by omega) (by omega) rfl (fun a5 c5 => ?_)
    simp only [List.set_cons_zero, List.set_cons_succ, List.eraseIdx_cons_zero, List.eraseIdx_cons_succ, List.cons_append, List.nil_append]
    (repeat' (first | refine X.rq ?_ | (refine X.rc ?_ ?_ <;> intro hc <;> first | (exfalso; omega) | skip)))
    refine X.sto ?_
    simp only [List.set_cons_zero, List.set_cons_succ, List.eraseIdx_cons_zero, List.eraseIdx_cons_succ, List.cons_append, List.nil_append]
    (repeat' (first | refine X.rq ?_ | (refine X.rc ?_ ?_ <;> intro hc <;> first | (exfalso; omega) | skip)))
    refine K.AT.sel [1, 2] rfl ?_
    refine Ch.AT.freezeRowE ((delK PLive.txn s.lives r.txn).map cL) ?_ ?_ (four_L _) (fun h2 le2 hsl2 => ?_)
    · rw [hdl]; simp; omega
    · rw [hdl]; simp; rw [List.take_of_length_le (by simp)]
    refine K.done (by first | exact Or.inl rfl | exact Or.inr rfl) rfl (by first | exact K.Base.le.refl _ | assumption) (H' := [stR B (bufV a5 _ c5) dv s.next]) rfl ⟨decide ((wu : Int) = 0), _, _, _, rfl, rfl, (fun e => ⟨{ s with lives := delK PLive.txn s.lives r.txn }, by rw [hq0, if_pos (by have := of_decide_eq_true e; omega)], ⟨hsl2, hs.d.le le2⟩, hwf, rfl⟩), fun e => by rw [hq0, if_neg (by have := of_decide_eq_false e; omega)]⟩
  rw [if_neg hk7] at hq0
  cases wo with
  | false =>
    rw [if_pos rfl] at hq0
    (repeat' (first | refine X.rq ?_ | (refine X.rc ?_ ?_ <;> intro hc <;> first | (exfalso; omega) | skip)))
    refine K.AT.sel [0, 1] rfl ?_
    refine K.done (by first | exact Or.inl rfl | exact Or.inr rfl) rfl (by first | exact K.Base.le.refl _ | assumption) (H' := [stR B (.slice (some ⟨bb, oo, none⟩) s.lives.length lc) dv s.next]) rfl ⟨false, _, _, _, rfl, rfl, (fun e => by cases e), fun _ => hq0⟩
  | true =>
    rw [if_neg (by decide)] at hq0
    by_cases hk2 : r.kind = 2
    · rw [if_pos hk2] at hq0
      (repeat' (first | refine X.rq ?_ | (refine X.rc ?_ ?_ <;> intro hc <;> first | (exfalso; omega) | skip)))
      refine X.sto ?_
      simp only [List.set_cons_zero, List.set_cons_succ, List.eraseIdx_cons_zero, List.eraseIdx_cons_succ, List.cons_append, List.nil_append]
      (repeat' (first | refine X.rq ?_ | (refine X.rc ?_ ?_ <;> intro hc <;> first | (exfalso; omega) | skip)))
      refine X.sto ?_
      simp only [List.set_cons_zero, List.set_cons_succ, List.eraseIdx_cons_zero, List.eraseIdx_cons_succ, List.cons_append, List.nil_append]
      (repeat' (first | refine X.rq ?_ | (refine X.rc ?_ ?_ <;> intro hc <;> first | (exfalso; omega) | skip)))
      refine K.l_call (Fx.cal rfl) rfl (RTouch h B s.next r.page r.lsn (.slice (some ⟨bb, oo, none⟩) s.lives.length lc) dv s.dirty hs.d hw0.rd hw0.wd hpg hlsn) (K.pp [1] rfl) rfl ?_
      rintro u h2 H' le2 ⟨rfl, dv2, rfl, hd2'⟩
      simp only [List.nil_append, List.cons_append, List.eraseIdx_cons_zero, List.eraseIdx_cons_succ]
      have hsl2 := hsl.le le2
      (repeat' (first | refine X.rq ?_ | (refine X.rc ?_ ?_ <;> intro hc <;> first | (exfalso; omega) | skip)))
      have hs3 := fun KK => hsl2.src (P := Tryz.prog) (K := KK) (ones_L s.lives)
      rw [List.length_map] at hs3
      refine K.l_buildSlice (Fx.und rfl) (Fx.sz rfl) rfl (Fx.zr rfl) rfl rfl rfl (cs := []) rfl rfl (fun B135 => ?_)
      refine K.WL.bufOf (m := 0) (s := 4) rfl (by decide) ?_
      (repeat' (first | refine X.rq ?_ | (refine X.rc ?_ ?_ <;> intro hc <;> first | (exfalso; omega) | skip)))
      refine K.l_append_at 0 rfl (Fx.und rfl) (Fx.und rfl) rfl (Fx.sz rfl) (Fx.zr rfl) rfl (Fx.byt rfl) rfl rfl (hs3 _) (by omega) (by omega) rfl (fun a3 c3 => ?_)
      simp only [List.set_cons_zero, List.set_cons_succ, List.eraseIdx_cons_zero, List.eraseIdx_cons_succ, List.cons_append, List.nil_append]
      rw [Nat.zero_add]
      (repeat' (first | refine X.rq ?_ | (refine X.rc ?_ ?_ <;> intro hc <;> first | (exfalso; omega) | skip)))
      refine X.sto ?_
      simp only [List.set_cons_zero, List.set_cons_succ, List.eraseIdx_cons_zero, List.eraseIdx_cons_succ, List.cons_append, List.nil_append]
      (repeat' (first | refine X.rq ?_ | (refine X.rc ?_ ?_ <;> intro hc <;> first | (exfalso; omega) | skip)))
      refine K.WC.someBuf 0 rfl (by omega) (fun b hb' => ?_)
      subst hb'
      refine X.draw ([stR B (bufV (some b) s.lives.length c3) dv2 s.next, blk B7 38 [.int .u32 r.txn, .int .u64 r.lsn, .int .u64 r.lsn, .bool true]]) [] (.pu 0 (.pu 1 (.pu 2 (.pu 4 (.st 3 (.st 5 (.pu 6 (.on 7 .nil)))))))) ?_
      refine K.d_pu rfl (fun _ _ => X.mv) rfl ?_
      refine K.d_pu rfl (fun _ _ => X.nc) rfl ?_
      refine K.d_pu rfl (fun _ _ => X.fa) rfl ?_
      refine K.d_pu rfl (fun _ _ => X.mv) rfl ?_
      refine K.d_st rfl X.ld rfl ?_
      refine K.d_st rfl X.ld rfl ?_
      refine K.d_pu rfl (fun _ _ => K.p_indexAddr (o' := i * 4) (Fx.und rfl) (Fx.sz rfl) rfl rfl (by omega) (by omega) (by rw [Int.toNat_natCast, Nat.zero_add])) rfl ?_
      refine K.d_on rfl (fun KK hKK => ?_)
      refine K.l_storePart (i := i) (c1 := []) (c2 := cL ⟨r.txn, wl, wu, true⟩) (c3 := []) (us := [.int .u32 r.txn, .int .u64 r.lsn, .int .u64 r.lsn, .bool true]) 0 rfl (Fx.sz rfl) rfl rfl rfl (four_L _) hci rfl ?_
      simp only [List.set_cons_zero, List.set_cons_succ, List.eraseIdx_cons_zero, List.eraseIdx_cons_succ, List.cons_append, List.nil_append]
      refine K.l_nil ?_
      refine X.onE hKK ?_
      refine K.d_nil ?_
      (repeat' (first | refine X.rq ?_ | (refine X.rc ?_ ?_ <;> intro hc <;> first | (exfalso; omega) | skip)))
      refine K.AT.sel [2, 2] rfl ?_
      have hins : insK PLive.txn ⟨r.txn, r.lsn, r.lsn, true⟩ s.lives = s.lives.set i ⟨r.txn, r.lsn, r.lsn, true⟩ := ins_set hw0.rl hi rfl
      refine Ch.AT.freezeRowE ((insK PLive.txn ⟨r.txn, r.lsn, r.lsn, true⟩ s.lives).map cL) ?_ ?_ (four_L _) (fun h3 le3 hsl3 => ?_)
      · rw [hins, List.length_map, List.length_set]
      · rw [hins, List.map_set]; rfl
      have hwf := (hw0.touch hpg hlsn).put (x := ⟨r.txn, r.lsn, r.lsn, true⟩) ⟨htx, hlsn, hlsn⟩
      have le4 := le2.trans le3
      refine K.done (by first | exact Or.inl rfl | exact Or.inr rfl) rfl (by first | exact K.Base.le.refl _ | assumption) (H' := [stR B (bufV (some b) _ c3) dv2 s.next]) rfl ⟨true, _, _, _, rfl, rfl, (fun _ => ⟨_, hq0, ⟨hsl3, hd2'.le le3⟩, hwf, rfl⟩), fun e => by cases e⟩
    rw [if_neg hk2] at hq0
    by_cases hk3 : r.kind = 3
    · rw [if_pos hk3] at hq0
      by_cases hu : wu ≤ r.undo
      · rw [if_pos hu] at hq0
        (repeat' (first | refine X.rq ?_ | (refine X.rc ?_ ?_ <;> intro hc <;> first | (exfalso; omega) | skip)))
        refine X.sto ?_
        simp only [List.set_cons_zero, List.set_cons_succ, List.eraseIdx_cons_zero, List.eraseIdx_cons_succ, List.cons_append, List.nil_append]
        (repeat' (first | refine X.rq ?_ | (refine X.rc ?_ ?_ <;> intro hc <;> first | (exfalso; omega) | skip)))
        refine K.AT.sel [0, 1] rfl ?_
        refine K.done (by first | exact Or.inl rfl | exact Or.inr rfl) rfl (by first | exact K.Base.le.refl _ | assumption) (H' := [stR B (.slice (some ⟨bb, oo, none⟩) s.lives.length lc) dv s.next]) rfl ⟨false, _, _, _, rfl, rfl, (fun e => by cases e), fun _ => hq0⟩
      rw [if_neg hu] at hq0
      (repeat' (first | refine X.rq ?_ | (refine X.rc ?_ ?_ <;> intro hc <;> first | (exfalso; omega) | skip)))
      refine X.sto ?_
      simp only [List.set_cons_zero, List.set_cons_succ, List.eraseIdx_cons_zero, List.eraseIdx_cons_succ, List.cons_append, List.nil_append]
      (repeat' (first | refine X.rq ?_ | (refine X.rc ?_ ?_ <;> intro hc <;> first | (exfalso; omega) | skip)))
      refine X.sto ?_
      simp only [List.set_cons_zero, List.set_cons_succ, List.eraseIdx_cons_zero, List.eraseIdx_cons_succ, List.cons_append, List.nil_append]
      (repeat' (first | refine X.rq ?_ | (refine X.rc ?_ ?_ <;> intro hc <;> first | (exfalso; omega) | skip)))
      refine K.l_call (Fx.cal rfl) rfl (RTouch h B s.next r.page r.lsn (.slice (some ⟨bb, oo, none⟩) s.lives.length lc) dv s.dirty hs.d hw0.rd hw0.wd hpg hlsn) (K.pp [1] rfl) rfl ?_
      rintro u h2 H' le2 ⟨rfl, dv2, rfl, hd2'⟩
      simp only [List.nil_append, List.cons_append, List.eraseIdx_cons_zero, List.eraseIdx_cons_succ]
      have hsl2 := hsl.le le2
      (repeat' (first | refine X.rq ?_ | (refine X.rc ?_ ?_ <;> intro hc <;> first | (exfalso; omega) | skip)))
      have hs3 := fun KK => hsl2.src (P := Tryz.prog) (K := KK) (ones_L s.lives)
      rw [List.length_map] at hs3
      refine K.l_buildSlice (Fx.und rfl) (Fx.sz rfl) rfl (Fx.zr rfl) rfl rfl rfl (cs := []) rfl rfl (fun B135 => ?_)
      refine K.WL.bufOf (m := 0) (s := 4) rfl (by decide) ?_
      (repeat' (first | refine X.rq ?_ | (refine X.rc ?_ ?_ <;> intro hc <;> first | (exfalso; omega) | skip)))
      refine K.l_append_at 0 rfl (Fx.und rfl) (Fx.und rfl) rfl (Fx.sz rfl) (Fx.zr rfl) rfl (Fx.byt rfl) rfl rfl (hs3 _) (by omega) (by omega) rfl (fun a3 c3 => ?_)
      simp only [List.set_cons_zero, List.set_cons_succ, List.eraseIdx_cons_zero, List.eraseIdx_cons_succ, List.cons_append, List.nil_append]
      rw [Nat.zero_add]
      (repeat' (first | refine X.rq ?_ | (refine X.rc ?_ ?_ <;> intro hc <;> first | (exfalso; omega) | skip)))
      refine X.sto ?_
      simp only [List.set_cons_zero, List.set_cons_succ, List.eraseIdx_cons_zero, List.eraseIdx_cons_succ, List.cons_append, List.nil_append]
      (repeat' (first | refine X.rq ?_ | (refine X.rc ?_ ?_ <;> intro hc <;> first | (exfalso; omega) | skip)))
      refine K.WC.someBuf 0 rfl (by omega) (fun b hb' => ?_)
      subst hb'
      refine X.draw ([stR B (bufV (some b) s.lives.length c3) dv2 s.next, blk B7 38 [.int .u32 r.txn, .int .u64 r.lsn, .int .u64 r.undo, .bool true]]) [] (.pu 0 (.pu 1 (.pu 2 (.pu 4 (.st 3 (.st 5 (.pu 6 (.on 7 .nil)))))))) ?_
      refine K.d_pu rfl (fun _ _ => X.mv) rfl ?_
      refine K.d_pu rfl (fun _ _ => X.nc) rfl ?_
      refine K.d_pu rfl (fun _ _ => X.fa) rfl ?_
      refine K.d_pu rfl (fun _ _ => X.mv) rfl ?_
      refine K.d_st rfl X.ld rfl ?_
      refine K.d_st rfl X.ld rfl ?_
      refine K.d_pu rfl (fun _ _ => K.p_indexAddr (o' := i * 4) (Fx.und rfl) (Fx.sz rfl) rfl rfl (by omega) (by omega) (by rw [Int.toNat_natCast, Nat.zero_add])) rfl ?_
      refine K.d_on rfl (fun KK hKK => ?_)
      refine K.l_storePart (i := i) (c1 := []) (c2 := cL ⟨r.txn, wl, wu, true⟩) (c3 := []) (us := [.int .u32 r.txn, .int .u64 r.lsn, .int .u64 r.undo, .bool true]) 0 rfl (Fx.sz rfl) rfl rfl rfl (four_L _) hci rfl ?_
      simp only [List.set_cons_zero, List.set_cons_succ, List.eraseIdx_cons_zero, List.eraseIdx_cons_succ, List.cons_append, List.nil_append]
      refine K.l_nil ?_
      refine X.onE hKK ?_
      refine K.d_nil ?_
      (repeat' (first | refine X.rq ?_ | (refine X.rc ?_ ?_ <;> intro hc <;> first | (exfalso; omega) | skip)))
      refine K.AT.sel [2, 2] rfl ?_
      have hins : insK PLive.txn ⟨r.txn, r.lsn, r.undo, true⟩ s.lives = s.lives.set i ⟨r.txn, r.lsn, r.undo, true⟩ := ins_set hw0.rl hi rfl
      refine Ch.AT.freezeRowE ((insK PLive.txn ⟨r.txn, r.lsn, r.undo, true⟩ s.lives).map cL) ?_ ?_ (four_L _) (fun h3 le3 hsl3 => ?_)
      · rw [hins, List.length_map, List.length_set]
      · rw [hins, List.map_set]; rfl
      have hwf := (hw0.touch hpg hlsn).put (x := ⟨r.txn, r.lsn, r.undo, true⟩) ⟨htx, hlsn, hru⟩
      have le4 := le2.trans le3
      refine K.done (by first | exact Or.inl rfl | exact Or.inr rfl) rfl (by first | exact K.Base.le.refl _ | assumption) (H' := [stR B (bufV (some b) _ c3) dv2 s.next]) rfl ⟨true, _, _, _, rfl, rfl, (fun _ => ⟨_, hq0, ⟨hsl3, hd2'.le le3⟩, hwf, rfl⟩), fun e => by cases e⟩
    rw [if_neg hk3] at hq0
    by_cases hk5 : r.kind = 5
    · rw [if_pos hk5] at hq0
      (repeat' (first | refine X.rq ?_ | (refine X.rc ?_ ?_ <;> intro hc <;> first | (exfalso; omega) | skip)))
      refine X.sto ?_
      simp only [List.set_cons_zero, List.set_cons_succ, List.eraseIdx_cons_zero, List.eraseIdx_cons_succ, List.cons_append, List.nil_append]
      (repeat' (first | refine X.rq ?_ | (refine X.rc ?_ ?_ <;> intro hc <;> first | (exfalso; omega) | skip)))
      refine X.sto ?_
      simp only [List.set_cons_zero, List.set_cons_succ, List.eraseIdx_cons_zero, List.eraseIdx_cons_succ, List.cons_append, List.nil_append]
      (repeat' (first | refine X.rq ?_ | (refine X.rc ?_ ?_ <;> intro hc <;> first | (exfalso; omega) | skip)))
      refine X.sto ?_
      simp only [List.set_cons_zero, List.set_cons_succ, List.eraseIdx_cons_zero, List.eraseIdx_cons_succ, List.cons_append, List.nil_append]
      (repeat' (first | refine X.rq ?_ | (refine X.rc ?_ ?_ <;> intro hc <;> first | (exfalso; omega) | skip)))
      have le2 : h.le h := .refl h
      have hsl2 := hsl
      have hs3 := fun KK => hsl2.src (P := Tryz.prog) (K := KK) (ones_L s.lives)
      rw [List.length_map] at hs3
      refine K.l_buildSlice (Fx.und rfl) (Fx.sz rfl) rfl (Fx.zr rfl) rfl rfl rfl (cs := []) rfl rfl (fun B135 => ?_)
      refine K.WL.bufOf (m := 0) (s := 4) rfl (by decide) ?_
      (repeat' (first | refine X.rq ?_ | (refine X.rc ?_ ?_ <;> intro hc <;> first | (exfalso; omega) | skip)))
      refine K.l_append_at 0 rfl (Fx.und rfl) (Fx.und rfl) rfl (Fx.sz rfl) (Fx.zr rfl) rfl (Fx.byt rfl) rfl rfl (hs3 _) (by omega) (by omega) rfl (fun a3 c3 => ?_)
      simp only [List.set_cons_zero, List.set_cons_succ, List.eraseIdx_cons_zero, List.eraseIdx_cons_succ, List.cons_append, List.nil_append]
      rw [Nat.zero_add]
      (repeat' (first | refine X.rq ?_ | (refine X.rc ?_ ?_ <;> intro hc <;> first | (exfalso; omega) | skip)))
      refine X.sto ?_
      simp only [List.set_cons_zero, List.set_cons_succ, List.eraseIdx_cons_zero, List.eraseIdx_cons_succ, List.cons_append, List.nil_append]
      (repeat' (first | refine X.rq ?_ | (refine X.rc ?_ ?_ <;> intro hc <;> first | (exfalso; omega) | skip)))
      refine K.WC.someBuf 0 rfl (by omega) (fun b hb' => ?_)
      subst hb'
      refine X.draw ([stR B (bufV (some b) s.lives.length c3) dv s.next, blk B7 38 [.int .u32 r.txn, .int .u64 r.lsn, .int .u64 0, .bool false]]) [] (.pu 0 (.pu 1 (.pu 2 (.pu 4 (.st 3 (.st 5 (.pu 6 (.on 7 .nil)))))))) ?_
      refine K.d_pu rfl (fun _ _ => X.mv) rfl ?_
      refine K.d_pu rfl (fun _ _ => X.nc) rfl ?_
      refine K.d_pu rfl (fun _ _ => X.fa) rfl ?_
      refine K.d_pu rfl (fun _ _ => X.mv) rfl ?_
      refine K.d_st rfl X.ld rfl ?_
      refine K.d_st rfl X.ld rfl ?_
      refine K.d_pu rfl (fun _ _ => K.p_indexAddr (o' := i * 4) (Fx.und rfl) (Fx.sz rfl) rfl rfl (by omega) (by omega) (by rw [Int.toNat_natCast, Nat.zero_add])) rfl ?_
      refine K.d_on rfl (fun KK hKK => ?_)
      refine K.l_storePart (i := i) (c1 := []) (c2 := cL ⟨r.txn, wl, wu, true⟩) (c3 := []) (us := [.int .u32 r.txn, .int .u64 r.lsn, .int .u64 0, .bool false]) 0 rfl (Fx.sz rfl) rfl rfl rfl (four_L _) hci rfl ?_
      simp only [List.set_cons_zero, List.set_cons_succ, List.eraseIdx_cons_zero, List.eraseIdx_cons_succ, List.cons_append, List.nil_append]
      refine K.l_nil ?_
      refine X.onE hKK ?_
      refine K.d_nil ?_
      (repeat' (first | refine X.rq ?_ | (refine X.rc ?_ ?_ <;> intro hc <;> first | (exfalso; omega) | skip)))
      refine K.AT.sel [1, 2] rfl ?_
      have hins : insK PLive.txn ⟨r.txn, r.lsn, 0, false⟩ s.lives = s.lives.set i ⟨r.txn, r.lsn, 0, false⟩ := ins_set hw0.rl hi rfl
      refine Ch.AT.freezeRowE ((insK PLive.txn ⟨r.txn, r.lsn, 0, false⟩ s.lives).map cL) ?_ ?_ (four_L _) (fun h3 le3 hsl3 => ?_)
      · rw [hins, List.length_map, List.length_set]
      · rw [hins, List.map_set]; rfl
      have hwf := hw0.put (x := ⟨r.txn, r.lsn, 0, false⟩) ⟨htx, hlsn, (by decide : (0 : Nat) < 18446744073709551616)⟩
      refine K.done (by first | exact Or.inl rfl | exact Or.inr rfl) rfl (by first | exact K.Base.le.refl _ | assumption) (H' := [stR B (bufV (some b) _ c3) dv s.next]) rfl ⟨true, _, _, _, rfl, rfl, (fun _ => ⟨_, hq0, ⟨hsl3, hs.d.le le3⟩, hwf, rfl⟩), fun e => by cases e⟩
    rw [if_neg hk5] at hq0
    (repeat' (first | refine X.rq ?_ | (refine X.rc ?_ ?_ <;> intro hc <;> first | (exfalso; omega) | skip)))
    refine X.sto ?_
    simp only [List.set_cons_zero, List.set_cons_succ, List.eraseIdx_cons_zero, List.eraseIdx_cons_succ, List.cons_append, List.nil_append]
    (repeat' (first | refine X.rq ?_ | (refine X.rc ?_ ?_ <;> intro hc <;> first | (exfalso; omega) | skip)))
    have le2 : h.le h := .refl h
    have hsl2 := hsl
    have hs3 := fun KK => hsl2.src (P := Tryz.prog) (K := KK) (ones_L s.lives)
    rw [List.length_map] at hs3
    refine K.l_buildSlice (Fx.und rfl) (Fx.sz rfl) rfl (Fx.zr rfl) rfl rfl rfl (cs := []) rfl rfl (fun B135 => ?_)
    refine K.WL.bufOf (m := 0) (s := 4) rfl (by decide) ?_
    (repeat' (first | refine X.rq ?_ | (refine X.rc ?_ ?_ <;> intro hc <;> first | (exfalso; omega) | skip)))
    refine K.l_append_at 0 rfl (Fx.und rfl) (Fx.und rfl) rfl (Fx.sz rfl) (Fx.zr rfl) rfl (Fx.byt rfl) rfl rfl (hs3 _) (by omega) (by omega) rfl (fun a3 c3 => ?_)
    simp only [List.set_cons_zero, List.set_cons_succ, List.eraseIdx_cons_zero, List.eraseIdx_cons_succ, List.cons_append, List.nil_append]
    rw [Nat.zero_add]
    (repeat' (first | refine X.rq ?_ | (refine X.rc ?_ ?_ <;> intro hc <;> first | (exfalso; omega) | skip)))
    refine X.sto ?_
    simp only [List.set_cons_zero, List.set_cons_succ, List.eraseIdx_cons_zero, List.eraseIdx_cons_succ, List.cons_append, List.nil_append]
    (repeat' (first | refine X.rq ?_ | (refine X.rc ?_ ?_ <;> intro hc <;> first | (exfalso; omega) | skip)))
    refine K.WC.someBuf 0 rfl (by omega) (fun b hb' => ?_)
    subst hb'
    refine X.draw ([stR B (bufV (some b) s.lives.length c3) dv s.next, blk B7 38 [.int .u32 r.txn, .int .u64 r.lsn, .int .u64 wu, .bool true]]) [] (.pu 0 (.pu 1 (.pu 2 (.pu 4 (.st 3 (.st 5 (.pu 6 (.on 7 .nil)))))))) ?_
    refine K.d_pu rfl (fun _ _ => X.mv) rfl ?_
    refine K.d_pu rfl (fun _ _ => X.nc) rfl ?_
    refine K.d_pu rfl (fun _ _ => X.fa) rfl ?_
    refine K.d_pu rfl (fun _ _ => X.mv) rfl ?_
    refine K.d_st rfl X.ld rfl ?_
    refine K.d_st rfl X.ld rfl ?_
    refine K.d_pu rfl (fun _ _ => K.p_indexAddr (o' := i * 4) (Fx.und rfl) (Fx.sz rfl) rfl rfl (by omega) (by omega) (by rw [Int.toNat_natCast, Nat.zero_add])) rfl ?_
    refine K.d_on rfl (fun KK hKK => ?_)
    refine K.l_storePart (i := i) (c1 := []) (c2 := cL ⟨r.txn, wl, wu, true⟩) (c3 := []) (us := [.int .u32 r.txn, .int .u64 r.lsn, .int .u64 wu, .bool true]) 0 rfl (Fx.sz rfl) rfl rfl rfl (four_L _) hci rfl ?_
    simp only [List.set_cons_zero, List.set_cons_succ, List.eraseIdx_cons_zero, List.eraseIdx_cons_succ, List.cons_append, List.nil_append]
    refine K.l_nil ?_
    refine X.onE hKK ?_
    refine K.d_nil ?_
    (repeat' (first | refine X.rq ?_ | (refine X.rc ?_ ?_ <;> intro hc <;> first | (exfalso; omega) | skip)))
    refine K.AT.sel [1, 2] rfl ?_
    have hins : insK PLive.txn ⟨r.txn, r.lsn, wu, true⟩ s.lives = s.lives.set i ⟨r.txn, r.lsn, wu, true⟩ := ins_set hw0.rl hi rfl
    refine Ch.AT.freezeRowE ((insK PLive.txn ⟨r.txn, r.lsn, wu, true⟩ s.lives).map cL) ?_ ?_ (four_L _) (fun h3 le3 hsl3 => ?_)
    · rw [hins, List.length_map, List.length_set]
    · rw [hins, List.map_set]; rfl
    have hwf := hw0.put (x := ⟨r.txn, r.lsn, wu, true⟩) ⟨htx, hlsn, hup⟩
    refine K.done (by first | exact Or.inl rfl | exact Or.inr rfl) rfl (by first | exact K.Base.le.refl _ | assumption) (H' := [stR B (bufV (some b) _ c3) dv s.next]) rfl ⟨true, _, _, _, rfl, rfl, (fun _ => ⟨_, hq0, ⟨hsl3, hs.d.le le3⟩, hwf, rfl⟩), fun e => by cases e⟩
end Go.Proofs.YtkdngpiiecmpgaaGreat.Ch

/-! Who is alive: the document. Conditions: each theorem's own. -/
namespace Go.Proofs.YtkdngpiiecmpgaaGreat.Ch
open Go Go.K Go.Proofs Go.Proofs.YtkdngpiiecmpgaaGreat Go.Proofs.YtkdngpiiecmpgaaGreat.Pg Go.Proofs.YtkdngpiiecmpgaaGreat.Rc
set_option linter.unusedVariables false
set_option linter.unusedSimpArgs false
set_option maxRecDepth 10000

theorem right_lsn : ∀ {l : List Recd} {n : Nat}, rightQ n l = true → Rising Recd.lsn l
  | [], _, _ => List.Pairwise.nil
  | x :: l, n, h => by
    rw [rightQ, Bool.and_eq_true, Bool.and_eq_true, decide_eq_true_eq] at h
    exact List.pairwise_cons.2 ⟨fun y hy => (right_all h.2 y hy).2, right_lsn h.2⟩
theorem hears_st {l : List Recd} {j : Nat} {x : Recd} {s : St} (h : l[j]? = some x) : hearsQ s (l.drop j) = match hearQ s x with | none => none | some s' => hearsQ s' (l.drop (j + 1)) := by
  obtain ⟨hj, rfl⟩ := List.getElem?_eq_some_iff.1 h
  rw [List.drop_eq_getElem_cons hj]
  rfl
theorem St0_wf : WfS St0 := ⟨List.Pairwise.nil, List.Pairwise.nil, (fun x h => by cases h), (fun x h => by cases h), by decide⟩
/-- What a call of the document's Analyse leaves. -/
def RAnalysed (l : List Recd) (c : Nat) (u : Value) (h' : Base) (H' : List Asrt) : Prop :=
  (analyseQ l c = none ∧ u = .tuple #[.pointer none, .bool false] ∧ H' = []) ∨ ∃ s B lv dv, analyseQ l c = some s ∧ StR h' lv dv s ∧ WfS s ∧ u = .tuple #[stP B, .bool true] ∧ H' = [stR B lv dv s.next]
structure AnR where
  first : Int
  lv : Value
  dv : Value
  s : St
  b : Base
structure FiR where
  j : Nat
  first : Int
  lv : Value
  dv : Value
  s : St
  b : Base
/-- The checkpoint so far. -/
def FirstQ (l : List Recd) (c j : Nat) (first : Int) (s : St) : Prop :=
  (first = -1 ∧ s = St0 ∧ ∀ i x, i < j → l[i]? = some x → isCheck c x = false) ∨ ∃ (i : Nat) (x : Recd), i < j ∧ l[i]? = some x ∧ isCheck c x = true ∧ first = (i + 1 : Nat) ∧ s = ⟨x.lives, x.dirty, max x.next 1⟩
set_option maxHeartbeats 16000000 in
theorem RAnalyse (h : Base) (v : Value) (es : List (List Value)) (l : List Recd) (c : Nat) (hv : SL h 15 v es) (hr : RowsG (RecC h) es l) (hl : l.length ≤ 9223372036854775806) (hs : ∀ x ∈ l, smallR x) (hc : c < 18446744073709551616) :
    Tr Tryz.prog 12 [v, .int .u64 c] h [] (RAnalysed l c) := by
  have hri := RefRight h v es l hv hr (by omega) hs
  have hel := hr.1
  obtain ⟨ao, ca, rfl⟩ := hv.len
  rw [hel] at hv hri ⊢
  refine K.enter Tryz.func12 rfl (Nat.le_of_ble_eq_true rfl) (fun F => ?_)
  simp only [List.nil_append, List.cons_append]
  (repeat' (first | refine X.rq ?_ | (refine X.rc ?_ ?_ <;> intro hc <;> first | (exfalso; omega) | skip)))
  refine K.l_callV (Fx.cal rfl) rfl hri (K.pp [] rfl) rfl rfl ?_
  simp only [List.nil_append]
  cases hq : rightQ 0 l with
  | false =>
    (repeat' (first | refine X.rq ?_ | (refine X.rc ?_ ?_ <;> intro hc <;> first | (exfalso; omega) | skip)))
    refine K.done (by first | exact Or.inl rfl | exact Or.inr rfl) rfl (by first | exact K.Base.le.refl _ | assumption) (H' := []) rfl (.inl ⟨by unfold analyseQ; rw [if_pos hq], rfl, rfl⟩)
  | true =>
    have hlr := right_lsn hq
    have hma := fun (_ : Unit) => right_all hq
    (repeat' (first | refine X.rq ?_ | (refine X.rc ?_ ?_ <;> intro hc <;> first | (exfalso; omega) | skip)))
    refine K.l_box rfl rfl rfl (fun B6 => ?_)
    (repeat' (first | refine X.rs ?_ | (refine X.rd ?_ ?_ <;> intro hc <;> first | (exfalso; omega) | skip)))
    apply K.c_seq
    refine X.w ?_
    (repeat' (first | refine X.rs ?_ | (refine X.rd ?_ ?_ <;> intro hc <;> first | (exfalso; omega) | skip)))
    apply K.c_seq
    refine K.c_join (β := AnR) (fun q => [(0, .slice ao l.length ca), (6, stP B6), (7, .int .i64 q.first)]) (fun q => q.b) (fun q => stR B6 q.lv q.dv q.s.next :: F)
      (fun q => h.le q.b ∧ StR q.b q.lv q.dv q.s ∧ WfS q.s ∧ ∃ f : Nat, q.first = f ∧ f ≤ l.length ∧ analyseQ l c = hearsQ q.s (l.drop f)) (fun KJ hJ => ?_) ?_
    · by_cases hc0 : c = 0
      · have hqa : analyseQ l c = hearsQ St0 l := by unfold analyseQ; rw [if_neg (by rw [hq]; decide), if_pos hc0]
        (repeat' (first | refine X.rq ?_ | (refine X.rc ?_ ?_ <;> intro hc <;> first | (exfalso; omega) | skip)))
        exact K.a_join hJ ⟨0, .slice none 0 0, .slice none 0 0, St0, h⟩ ⟨.refl _, ⟨SL.nil, SL.nil⟩, St0_wf, 0, rfl, Nat.zero_le _, hqa⟩ (by repeat (first | exact K.Sub.nil _ | refine K.Sub.cons rfl ?_)) rfl rfl
      · have hqa : analyseQ l c = match checkAt l c with | none => none | some i => match l[i]? with | none => none | some r => hearsQ ⟨r.lives, r.dirty, max r.next 1⟩ (l.drop (i + 1)) := by
          unfold analyseQ; rw [if_neg (by rw [hq]; decide), if_neg hc0]; rfl
        have hr := fun (_ : Unit) => hr
        (repeat' (first | refine X.rq ?_ | (refine X.rc ?_ ?_ <;> intro hc <;> first | (exfalso; omega) | skip)))
        refine K.c_loop (σ := FiR) (fun q => [(0, .slice ao l.length ca), (1, .int .u64 c), (6, stP B6), (7, .int .i64 q.first), (8, .int .i64 q.j)]) (fun q => q.b) (fun q => stR B6 q.lv q.dv q.s.next :: F)
          (fun q => q.j ≤ l.length ∧ h.le q.b ∧ StR q.b q.lv q.dv q.s ∧ WfS q.s ∧ FirstQ l c q.j q.first q.s) (fun q => l.length - q.j) ⟨0, -1, .slice none 0 0, .slice none 0 0, St0, h⟩
          ⟨Nat.zero_le _, .refl _, ⟨SL.nil, SL.nil⟩, St0_wf, .inl ⟨rfl, rfl, fun i x hi => absurd hi (Nat.not_lt_zero _)⟩⟩ (by repeat (first | exact K.Sub.nil _ | refine K.Sub.cons rfl ?_)) rfl rfl ?_
        rintro ⟨j, first, lv, dv, s, h1⟩ ⟨hj, le1, hst, hwf, hfi⟩ KL hKL
        dsimp only at hj le1 hst hwf hfi ⊢
        have hfi := fun (_ : Unit) => hfi
        by_cases hjl : j < l.length
        · have hc1 : es[j]? = some (es[j]'(by omega)) := List.getElem?_eq_getElem (by omega)
          have hc0 : es[((j : Nat) : Int).toNat]? = some (es[j]'(by omega)) := by rw [Int.toNat_natCast]; exact hc1
          have hx1 : l[j]? = some (l[j]'hjl) := List.getElem?_eq_getElem hjl
          have hmx := (hma () _ (List.getElem_mem hjl)).1
          generalize es[j]'(by omega) = ce at hc0 hc1
          generalize l[j]'hjl = x at hx1 hmx
          obtain ⟨hw, ad, ai, al, ay, cd, ci, cl, cy, rfl, _, _, hl4, hd2⟩ := ((hr ()).2 j ce x hc1 hx1).le le1 |>.cells
          have hlsn := hw.lsn
          have hlv := hw.lives
          have hdv := hw.dirty
          have hnx := hw.next
          obtain ⟨hri1, hri2⟩ := may_rise hmx
          have hwl := fun (_ : Unit) => hw.live
          have hwd := fun (_ : Unit) => hw.dirt
          have hfl := rising_few hri1 (N := 4294967296) fun y hy => (hwl () y hy).txn
          have hfd := rising_few hri2 (N := 4294967296) fun y hy => (hwd () y hy).page
          clear hw hmx
          have hv1 := hv.le le1
          (repeat' (first | refine X.rq ?_ | (refine X.rc ?_ ?_ <;> intro hc <;> first | (exfalso; omega) | skip)))
          refine K.s_pureE (K.p_indexL hv1 (Fx.und rfl) (Fx.sz rfl) rfl rfl (by omega) hc0) rfl ?_
          rintro v2 ⟨b2', o2, rfl, hcel⟩
          refine K.s_pure (K.p_loadM (Fx.agg rfl) rfl (Cels.up hcel) (Fx.sz rfl) rfl) rfl ?_
          refine K.l_alloc (Fx.zr rfl) rfl rfl (fun B9 => ?_)
          refine X.stw ?_
          simp only [List.set_cons_zero, List.set_cons_succ, List.eraseIdx_cons_zero, List.eraseIdx_cons_succ, List.cons_append, List.nil_append]
          by_cases hck : x.lsn = c ∧ x.kind = 8
          · obtain ⟨hck1, hck2⟩ := hck
            have hnew : FirstQ l c (j + 1) ((j + 1 : Nat) : Int) ⟨x.lives, x.dirty, max x.next 1⟩ := .inr ⟨j, x, by omega, hx1, by unfold isCheck; rw [decide_eq_true hck1, decide_eq_true hck2]; rfl, rfl, rfl⟩
            have hs1 := fun KK => hl4.src (P := Tryz.prog) (K := KK) (ones_L x.lives)
            rw [List.length_map] at hs1
            have hz1 : x.lives.length = (x.lives.map cL).length := (List.length_map ..).symm
            have hz2 : x.dirty.length = (x.dirty.map cD).length := (List.length_map ..).symm
            (repeat' (first | refine X.rq ?_ | (refine X.rc ?_ ?_ <;> intro hc <;> first | (exfalso; omega) | skip)))
            refine K.l_buildSlice (Fx.und rfl) (Fx.sz rfl) rfl (Fx.zr rfl) rfl rfl rfl (cs := []) rfl rfl (fun B38 => ?_)
            refine K.WL.bufOf (m := 0) (s := 4) rfl (by decide) ?_
            (repeat' (first | refine X.rq ?_ | (refine X.rc ?_ ?_ <;> intro hc <;> first | (exfalso; omega) | skip)))
            refine K.l_append_at 0 rfl (Fx.und rfl) (Fx.und rfl) rfl (Fx.sz rfl) (Fx.zr rfl) rfl (Fx.byt rfl) rfl rfl (hs1 _) (by omega) (by omega) rfl (fun a3 c3 => ?_)
            simp only [List.set_cons_zero, List.set_cons_succ, List.eraseIdx_cons_zero, List.eraseIdx_cons_succ, List.cons_append, List.nil_append]
            rw [Nat.zero_add]
            refine K.WL.freezeRowN hz1 (four_L x.lives) (fun h2 le2 hA => ?_)
            have hs2 := fun KK => (hd2.le le2).src (P := Tryz.prog) (K := KK) (ones_D x.dirty)
            rw [List.length_map] at hs2
            (repeat' (first | refine X.rq ?_ | (refine X.rc ?_ ?_ <;> intro hc <;> first | (exfalso; omega) | skip)))
            refine X.sto ?_
            simp only [List.set_cons_zero, List.set_cons_succ, List.eraseIdx_cons_zero, List.eraseIdx_cons_succ, List.cons_append, List.nil_append]
            (repeat' (first | refine X.rq ?_ | (refine X.rc ?_ ?_ <;> intro hc <;> first | (exfalso; omega) | skip)))
            refine K.l_buildSlice (Fx.und rfl) (Fx.sz rfl) rfl (Fx.zr rfl) rfl rfl rfl (cs := []) rfl rfl (fun B45 => ?_)
            refine K.WL.bufOf (m := 0) (s := 2) rfl (by decide) ?_
            (repeat' (first | refine X.rq ?_ | (refine X.rc ?_ ?_ <;> intro hc <;> first | (exfalso; omega) | skip)))
            refine K.l_append_at 0 rfl (Fx.und rfl) (Fx.und rfl) rfl (Fx.sz rfl) (Fx.zr rfl) rfl (Fx.byt rfl) rfl rfl (hs2 _) (by omega) (by omega) rfl (fun a4 c4 => ?_)
            simp only [List.set_cons_zero, List.set_cons_succ, List.eraseIdx_cons_zero, List.eraseIdx_cons_succ, List.cons_append, List.nil_append]
            rw [Nat.zero_add]
            refine K.WL.freezeRowN hz2 (two_D x.dirty) (fun h3 le3 hB => ?_)
            (repeat' (first | refine X.rq ?_ | (refine X.rc ?_ ?_ <;> intro hc <;> first | (exfalso; omega) | skip)))
            refine X.sto ?_
            simp only [List.set_cons_zero, List.set_cons_succ, List.eraseIdx_cons_zero, List.eraseIdx_cons_succ, List.cons_append, List.nil_append]
            (repeat' (first | refine X.rq ?_ | (refine X.rc ?_ ?_ <;> intro hc <;> first | (exfalso; omega) | skip)))
            refine X.sto ?_
            simp only [List.set_cons_zero, List.set_cons_succ, List.eraseIdx_cons_zero, List.eraseIdx_cons_succ, List.cons_append, List.nil_append]
            (repeat' (first | refine X.rq ?_ | (refine X.rc ?_ ?_ <;> intro hc <;> first | (exfalso; omega) | skip)))
            rw [show max (x.next : Int) 1 = ((max x.next 1 : Nat) : Int) from by omega]
            refine K.AT.drop ?_
            refine K.a_round hKL ⟨j + 1, ((j + 1 : Nat) : Int), bufV a3 x.lives.length c3, bufV a4 x.dirty.length c4, ⟨x.lives, x.dirty, max x.next 1⟩, h3⟩ ⟨by dsimp only; omega, le1.trans (le2.trans le3), ⟨hA.le le3, hB⟩, ⟨hri1, hri2, hwl (), hwd (), by show max x.next 1 < _; omega⟩, hnew⟩ (by repeat (first | exact K.Sub.nil _ | refine K.Sub.cons rfl ?_)) rfl rfl (by dsimp only; omega)
          · have hnew : FirstQ l c (j + 1) first s := by
              have hno : isCheck c x = false := by
                unfold isCheck
                rw [Bool.and_eq_false_iff, decide_eq_false_iff_not, decide_eq_false_iff_not]
                exact Classical.not_and_iff_not_or_not.1 hck
              rcases hfi () with ⟨e1, e2, e3⟩ | ⟨i, y, e1, e2⟩
              · refine .inl ⟨e1, e2, fun i y hi hy => ?_⟩
                by_cases hij : i = j
                · subst hij; rw [hx1] at hy; obtain rfl := Option.some.inj hy; exact hno
                · exact e3 i y (by omega) hy
              · exact .inr ⟨i, y, by omega, e2⟩
            by_cases hck1 : x.lsn = c
            · have hck2 : x.kind ≠ 8 := fun e => hck ⟨hck1, e⟩
              (repeat' (first | refine X.rq ?_ | (refine X.rc ?_ ?_ <;> intro hc <;> first | (exfalso; omega) | skip)))
              refine K.AT.drop ?_
              refine K.a_round hKL ⟨j + 1, first, lv, dv, s, h1⟩ ⟨by dsimp only; omega, le1, hst, hwf, hnew⟩ (by repeat (first | exact K.Sub.nil _ | refine K.Sub.cons rfl ?_)) rfl rfl (by dsimp only; omega)
            · (repeat' (first | refine X.rq ?_ | (refine X.rc ?_ ?_ <;> intro hc <;> first | (exfalso; omega) | skip)))
              refine K.AT.drop ?_
              refine K.a_round hKL ⟨j + 1, first, lv, dv, s, h1⟩ ⟨by dsimp only; omega, le1, hst, hwf, hnew⟩ (by repeat (first | exact K.Sub.nil _ | refine K.Sub.cons rfl ?_)) rfl rfl (by dsimp only; omega)
        · obtain rfl : j = l.length := by omega
          rcases hfi () with ⟨rfl, rfl, hno⟩ | ⟨i, x, hi, hxi, hci, rfl, rfl⟩
          · have hck : checkAt l c = none := check_none fun x hx => by
              obtain ⟨j, hj, rfl⟩ := List.mem_iff_getElem.1 hx
              exact hno j _ hj (List.getElem?_eq_getElem hj)
            rw [hck] at hqa
            (repeat' (first | refine X.rq ?_ | (refine X.rc ?_ ?_ <;> intro hc <;> first | (exfalso; omega) | skip)))
            refine K.AT.drop ?_
            refine K.done (by first | exact Or.inl rfl | exact Or.inr rfl) rfl (by first | exact K.Base.le.refl _ | assumption) (H' := []) rfl (.inl ⟨hqa, rfl, rfl⟩)
          · have hck : checkAt l c = some i := check_some hxi hci fun j hj y hy => by
              unfold isCheck at hci ⊢
              rw [Bool.and_eq_true, decide_eq_true_eq] at hci
              have := rise_lt hlr hj hy hxi
              rw [decide_eq_false (by omega)]; rfl
            rw [hck] at hqa
            dsimp only at hqa
            rw [hxi] at hqa
            (repeat' (first | refine X.rq ?_ | (refine X.rc ?_ ?_ <;> intro hc <;> first | (exfalso; omega) | skip)))
            exact K.a_join hJ ⟨((i + 1 : Nat) : Int), lv, dv, _, h1⟩ ⟨le1, hst, hwf, i + 1, rfl, by omega, hqa⟩ (by repeat (first | exact K.Sub.nil _ | refine K.Sub.cons rfl ?_)) rfl rfl
    · rintro ⟨first, lv, dv, s0, h1⟩ ⟨le1, hst, hwf, f, hf, hfl, hqa⟩
      dsimp only at le1 hst hwf hf hqa ⊢
      subst hf
      have hr := fun (_ : Unit) => hr
      (repeat' (first | refine X.rq ?_ | (refine X.rc ?_ ?_ <;> intro hc <;> first | (exfalso; omega) | skip)))
      refine K.c_loop (σ := FiR) (fun q => [(0, .slice ao l.length ca), (6, stP B6), (10, .int .i64 q.j)]) (fun q => q.b) (fun q => stR B6 q.lv q.dv q.s.next :: F)
        (fun q => q.j ≤ l.length ∧ h.le q.b ∧ StR q.b q.lv q.dv q.s ∧ WfS q.s ∧ analyseQ l c = hearsQ q.s (l.drop q.j)) (fun q => l.length - q.j) ⟨f, 0, lv, dv, s0, h1⟩
        ⟨hfl, le1, hst, hwf, hqa⟩ (by repeat (first | exact K.Sub.nil _ | refine K.Sub.cons rfl ?_)) rfl rfl ?_
      clear le1 hst hwf hqa hfl
      rintro ⟨j, _, lv, dv, s, h1⟩ ⟨hj, le1, hst, hwf, hqa⟩ KL hKL
      dsimp only at hj le1 hst hwf hqa ⊢
      by_cases hjl : j < l.length
      · have hc1 : es[j]? = some (es[j]'(by omega)) := List.getElem?_eq_getElem (by omega)
        have hc0 : es[((j : Nat) : Int).toNat]? = some (es[j]'(by omega)) := by rw [Int.toNat_natCast]; exact hc1
        have hx1 : l[j]? = some (l[j]'hjl) := List.getElem?_eq_getElem hjl
        generalize es[j]'(by omega) = ce at hc0 hc1
        generalize l[j]'hjl = x at hx1
        have hxc := ((hr ()).2 j ce x hc1 hx1).le le1
        have hz := fifteen hxc
        rw [hears_st hx1] at hqa
        have hhe := RHear h1 B6 lv dv s hst hwf ce x hxc
        have hv1 := hv.le le1
        clear hxc
        (repeat' (first | refine X.rq ?_ | (refine X.rc ?_ ?_ <;> intro hc <;> first | (exfalso; omega) | skip)))
        refine K.s_pureE (K.p_indexL hv1 (Fx.und rfl) (Fx.sz rfl) rfl rfl (by omega) hc0) rfl ?_
        rintro v2 ⟨b2', o2, rfl, hcel⟩
        refine K.s_pure (K.p_loadM (Fx.agg rfl) rfl (Cels.up hcel) (Fx.sz rfl) hz) rfl ?_
        (repeat' (first | refine X.rq ?_ | (refine X.rc ?_ ?_ <;> intro hc <;> first | (exfalso; omega) | skip)))
        refine K.l_call (Fx.cal rfl) rfl hhe (K.pp [0] rfl) rfl ?_
        rintro u h2 H' le2 ⟨ok, lv2, dv2, nx2, rfl, rfl, hok, hno⟩
        simp only [List.nil_append, List.cons_append]
        have le3 := le1.trans le2
        cases ok with
        | false =>
          rw [hno rfl] at hqa
          (repeat' (first | refine X.rq ?_ | (refine X.rc ?_ ?_ <;> intro hc <;> first | (exfalso; omega) | skip)))
          refine K.AT.drop ?_
          refine K.done (by first | exact Or.inl rfl | exact Or.inr rfl) rfl (by first | exact K.Base.le.refl _ | assumption) (H' := []) rfl (.inl ⟨hqa, rfl, rfl⟩)
        | true =>
          obtain ⟨s', q1, q2, q3, rfl⟩ := hok rfl
          rw [q1] at hqa
          (repeat' (first | refine X.rq ?_ | (refine X.rc ?_ ?_ <;> intro hc <;> first | (exfalso; omega) | skip)))
          refine K.a_round hKL ⟨j + 1, 0, lv2, dv2, s', h2⟩ ⟨by dsimp only; omega, le3, q2, q3, hqa⟩ (by repeat (first | exact K.Sub.nil _ | refine K.Sub.cons rfl ?_)) rfl rfl (by dsimp only; omega)
      · obtain rfl : j = l.length := by omega
        rw [List.drop_length] at hqa
        have hqa : analyseQ l c = some s := hqa
        (repeat' (first | refine X.rq ?_ | (refine X.rc ?_ ?_ <;> intro hc <;> first | (exfalso; omega) | skip)))
        refine K.done (by first | exact Or.inl rfl | exact Or.inr rfl) rfl (by first | exact K.Base.le.refl _ | assumption) (H' := [stR B6 lv dv s.next]) rfl (.inr ⟨s, B6, lv, dv, hqa, hst, hwf, rfl, rfl⟩)
end Go.Proofs.YtkdngpiiecmpgaaGreat.Ch
