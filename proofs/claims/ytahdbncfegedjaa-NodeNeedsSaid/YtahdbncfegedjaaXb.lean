/-
  Trees of pages: need; a page of a tree; entries and children. Conditions: each theorem's own.
-/
import Derived.Test.YtahdbncfegedjaaXa
import Derived.Test.YtahdbncfegedjaaKT
import Derived.Test.YtahdbncfegedjaaFd

namespace Go.Proofs.Ytahdbncfegedjaa.Nd
open Go Go.K Go.Proofs Go.Proofs.Ytahdbncfegedjaa Go.Proofs.Ytahdbncfegedjaa.Pg
set_option linter.unusedVariables false
set_option linter.unusedSimpArgs false
set_option maxRecDepth 10000

abbrev failV (e : Int) : Value := .iface 75 (.agg #[.int .i64 e])
abbrev txt (s : List UInt8) : Value := .string ⟨s.toArray⟩
theorem Need (h : Base) (ok : Bool) (e : Int) : TrX Try.prog 32 [.bool ok, .int .i64 e] h [] (fun v h' H' => h' = h ∧ H' = [] ∧ ok = true) (fun v h' H' => h' = h ∧ H' = [] ∧ ok = false ∧ v = failV e) := by
  refine K.enterX Try.func32 rfl (Nat.le_of_ble_eq_true rfl) (fun F => ?_)
  cases ok with
  | true =>
    (repeat' (first | refine X.rq ?_ | (refine X.rc ?_ ?_ <;> intro hc <;> first | (exfalso; omega) | skip)))
    refine K.doneX (by first | exact Or.inl rfl | exact Or.inr rfl) rfl (K.Base.le.refl _) (H' := []) rfl ⟨rfl, rfl, rfl⟩
  | false =>
    (repeat' (first | refine X.rq ?_ | (refine X.rc ?_ ?_ <;> intro hc <;> first | (exfalso; omega) | skip)))
    refine K.s_pure (K.p_mkI Try.underlying75 rfl rfl) rfl ?_
    refine K.l_panic rfl ?_
    exact K.upX (K.Base.le.refl _) (H' := []) rfl ⟨rfl, rfl, rfl, rfl⟩
def isEntryQ (s : List UInt8) : Bool := decide (1 ≤ s.length ∧ s.length ≤ 146)
theorem txt_size (s : List UInt8) : (⟨s.toArray⟩ : ByteArray).size = s.length := by simp [ByteArray.size]
theorem IsEntry (h : Base) (s : List UInt8) : TrV Try.prog 23 [txt s] h [] (.bool (isEntryQ s)) [] := by
  refine K.enter Try.func23 rfl (Nat.le_of_ble_eq_true rfl) (fun F => ?_)
  (repeat' (first | refine X.rq ?_ | (refine X.rc ?_ ?_ <;> intro hc <;> first | (exfalso; omega) | skip)))
  all_goals
    simp only [txt_size] at *
    refine K.done (by first | exact Or.inl rfl | exact Or.inr rfl) rfl (by first | exact K.Base.le.refl _ | assumption) (H' := []) rfl ⟨?_, rfl, rfl⟩
    show Value.bool _ = Value.bool _
    congr 1
    first | (unfold isEntryQ; rw [decide_eq_decide]; omega) | (symm; unfold isEntryQ; rw [decide_eq_false_iff_not]; omega)
theorem RIsEntry (h : Base) (s : List UInt8) : TrV Try.prog 27 [txt s] h [] (.bool (isEntryQ s)) [] := by
  refine K.enter Try.func27 rfl (Nat.le_of_ble_eq_true rfl) (fun F => ?_)
  (repeat' (first | refine X.rq ?_ | (refine X.rc ?_ ?_ <;> intro hc <;> first | (exfalso; omega) | skip)))
  all_goals
    simp only [txt_size] at *
    refine K.done (by first | exact Or.inl rfl | exact Or.inr rfl) rfl (by first | exact K.Base.le.refl _ | assumption) (H' := []) rfl ⟨?_, rfl, rfl⟩
    show Value.bool _ = Value.bool _
    congr 1
    first | (unfold isEntryQ; rw [decide_eq_decide]; omega) | (symm; unfold isEntryQ; rw [decide_eq_false_iff_not]; omega)

/-! ### Entries and children -/
def num4 (l : List UInt8) : Nat := l.foldl (fun a b => a * 256 + b.toNat) 0
theorem num4_snoc (l : List UInt8) (c : UInt8) : num4 (l ++ [c]) = num4 l * 256 + c.toNat := by simp [num4, List.foldl_append]
def keyOf (x : PCell) : List UInt8 := x.data.take (x.data.length - 4)
def childOf (x : PCell) : Nat := num4 (x.data.drop (x.data.length - 4))
theorem num4_lt : ∀ (n : Nat) (l : List UInt8), l.length = n → num4 l < 256 ^ n
  | 0, l, h => by rw [List.eq_nil_of_length_eq_zero h]; decide
  | n + 1, l, h => by
    obtain ⟨m, c, rfl⟩ : ∃ m c, l = m ++ [c] := by
      refine ⟨l.dropLast, l.getLast (by intro e; rw [e] at h; cases h), (List.dropLast_concat_getLast _).symm⟩
    rw [num4_snoc, Nat.pow_succ]
    have := num4_lt n m (by simpa using h)
    have := c.toNat_lt
    omega
theorem childOf_lt {x : PCell} (h : 4 ≤ x.data.length) : childOf x < 4294967296 := by
  have := num4_lt 4 (x.data.drop (x.data.length - 4)) (by simp; omega)
  simpa [childOf] using this
theorem or_byte (x : Nat) (c : Nat) (hx : x < 16777216) (hc : c < 256) : bits .or .u32 (IntKind.u32.wrap ((x : Int) * 2 ^ (min ((8 : Int)).toNat IntKind.u32.bits))) (c : Int) = ((x * 256 + c : Nat) : Int) := by
  have e1 : IntKind.u32.wrap ((x : Int) * 2 ^ (min ((8 : Int)).toNat IntKind.u32.bits)) = ((x * 256 : Nat) : Int) := by
    rw [show (min ((8 : Int)).toNat IntKind.u32.bits) = 8 from rfl, wu32]
    omega
  rw [e1, u32_or_nat _ _ (by omega) (by omega)]
  congr 1
  have h1 : x * 256 = x <<< 8 := by rw [Nat.shiftLeft_eq]
  rw [h1, ← Nat.shiftLeft_add_eq_or_of_lt (i := 8) (by omega)]
theorem SplitC (h : Base) (c : List Value) (x : PCell) (hx : CellC h c x) (h4 : 4 ≤ x.data.length) : TrV Try.prog 72 [.agg c.toArray] h [] (.tuple #[txt (keyOf x), .int .u32 (childOf x)]) [] := by
  obtain ⟨hkl, hdl, ao3, ca3, rfl, hbv⟩ := hx
  refine K.enter Try.func72 rfl (Nat.le_of_ble_eq_true rfl) (fun F => ?_)
  (repeat' (first | refine X.rq ?_ | (refine X.rc ?_ ?_ <;> intro hc <;> first | (exfalso; omega) | skip)))
  refine K.l_box rfl rfl rfl (fun B => ?_)
  (repeat' (first | refine X.rq ?_ | (refine X.rc ?_ ?_ <;> intro hc <;> first | (exfalso; omega) | skip)))
  refine K.s_pureE (K.p_sliceB (k1 := .i64) (k2 := .i64) (p := x.data.length - 4) (q := x.data.length) hbv (Fx.und rfl) (Fx.sz rfl) rfl ⟨_, rfl, by omega⟩ rfl (by omega) (by omega)) rfl ?_
  intro v2 hv2
  rw [List.take_length] at hv2
  obtain ⟨ao2, ca2, rfl⟩ := hv2.len
  have hl4 : (x.data.drop (x.data.length - 4)).length = 4 := by simp; omega
  rw [hl4] at hv2
  rw [hl4]
  (repeat' (first | refine X.rq ?_ | (refine X.rc ?_ ?_ <;> intro hc <;> first | (exfalso; omega) | skip)))
  generalize hd : x.data.drop (x.data.length - 4) = d at hv2 hl4
  refine K.c_loop (σ := Nat) (fun j => [(1, .pointer (some ⟨B, 0, none⟩)), (2, txt []), (3, .int .u32 0), (4, .int .i64 ((x.data.length : Int) - 4)), (5, .int .u32 (num4 (d.take j))), (15, .slice ao2 4 ca2), (16, .int .i64 4), (17, .int .i64 j)]) (fun _ => h) (fun _ => blk B 52 [.bool x.used, .int .u32 x.killer, .slice ao3 x.data.length ca3] :: F) (fun j => j ≤ 4) (fun j => 4 - j) 0 (Nat.zero_le _) (by repeat (first | exact K.Sub.nil _ | refine K.Sub.cons rfl ?_)) rfl rfl ?_
  rintro j hj KL hKL
  by_cases hjl : j < 4
  · have hc1 : d[((j : Nat) : Int).toNat]? = some d[j] := by rw [Int.toNat_natCast]; exact List.getElem?_eq_getElem (by omega)
    have ht : d.take (j + 1) = d.take j ++ [d[j]] := by rw [List.take_add_one, List.getElem?_eq_getElem (by omega)]; rfl
    generalize d[j] = c at hc1 ht
    have hn := num4_lt j (d.take j) (by simp; omega)
    have hn2 : (256 : Nat) ^ j ≤ 256 ^ 3 := Nat.pow_le_pow_right (by omega) (by omega)
    have hc8 := c.toNat_lt
    (repeat' (first | refine X.rq ?_ | (refine X.rc ?_ ?_ <;> intro hc <;> first | (exfalso; omega) | skip)))
    refine K.s_pureE (K.p_indexB hv2 (Fx.und rfl) (Fx.sz rfl) rfl rfl (by omega) hc1) rfl ?_
    rintro v3 ⟨b, o, rfl, hcel⟩
    refine K.s_pure (K.p_load (Fx.agg rfl) rfl (K.Cel.up hcel)) rfl ?_
    (repeat' (first | refine X.rq ?_ | (refine X.rc ?_ ?_ <;> intro hc <;> first | (exfalso; omega) | skip)))
    rw [or_byte _ _ (by omega) (by omega)]
    (repeat' (first | refine X.rq ?_ | (refine X.rc ?_ ?_ <;> intro hc <;> first | (exfalso; omega) | skip)))
    refine K.a_round hKL (j + 1) (by omega) (by rw [ht, num4_snoc]; exact (by repeat (first | exact K.Sub.nil _ | refine K.Sub.cons rfl ?_))) rfl rfl (by omega)
  · obtain rfl : j = 4 := by omega
    rw [List.take_of_length_le (i := 4) (l := d) (by omega)]
    (repeat' (first | refine X.rq ?_ | (refine X.rc ?_ ?_ <;> intro hc <;> first | (exfalso; omega) | skip)))
    refine K.s_pureE (K.p_sliceB (k1 := .i64) (k2 := .i64) (p := 0) (q := x.data.length - 4) hbv (Fx.und rfl) (Fx.sz rfl) rfl rfl ⟨_, rfl, by omega⟩ (by omega) (by omega)) rfl ?_
    intro v3 hv3
    rw [List.drop_zero] at hv3
    refine K.s_pure (K.p_textB hv3 (Fx.und rfl) (Fx.und rfl) (Fx.und rfl) rfl) rfl ?_
    (repeat' (first | refine X.rq ?_ | (refine X.rc ?_ ?_ <;> intro hc <;> first | (exfalso; omega) | skip)))
    refine K.AT.drop ?_
    refine K.done (by first | exact Or.inl rfl | exact Or.inr rfl) rfl (by first | exact K.Base.le.refl _ | assumption) (H' := []) rfl ⟨?_, rfl, rfl⟩
    unfold keyOf childOf
    rw [hd]; rfl
theorem RKey (h : Base) (c : List Value) (x : PCell) (hx : CellC h c x) (h4 : 4 ≤ x.data.length) : TrV Try.prog 54 [.agg c.toArray] h [] (txt (keyOf x)) [] := by
  obtain ⟨hkl, hdl, ao3, ca3, rfl, hbv⟩ := hx
  refine K.enter Try.func54 rfl (Nat.le_of_ble_eq_true rfl) (fun F => ?_)
  (repeat' (first | refine X.rq ?_ | (refine X.rc ?_ ?_ <;> intro hc <;> first | (exfalso; omega) | skip)))
  refine K.l_box rfl rfl rfl (fun B => ?_)
  (repeat' (first | refine X.rq ?_ | (refine X.rc ?_ ?_ <;> intro hc <;> first | (exfalso; omega) | skip)))
  refine K.s_pureE (K.p_sliceB (lo := none) (hi := some (.tmp 8)) (k1 := .i64) (k2 := .i64) (p := 0) (q := x.data.length - 4) hbv (Fx.und rfl) (Fx.sz rfl) rfl rfl ⟨_, rfl, by omega⟩ (by omega) (by omega)) rfl ?_
  intro v3 hv3
  rw [List.drop_zero] at hv3
  refine K.s_pure (K.p_textB hv3 (Fx.und rfl) (Fx.und rfl) (Fx.und rfl) rfl) rfl ?_
  (repeat' (first | refine X.rq ?_ | (refine X.rc ?_ ?_ <;> intro hc <;> first | (exfalso; omega) | skip)))
  refine K.AT.drop ?_
  refine K.done (by first | exact Or.inl rfl | exact Or.inr rfl) rfl (by first | exact K.Base.le.refl _ | assumption) (H' := []) rfl ⟨rfl, rfl, rfl⟩
theorem drop4 {l : List UInt8} (h : 4 ≤ l.length) : ∃ a b c d, l[l.length - 4]? = some a ∧ l[l.length - 3]? = some b ∧ l[l.length - 2]? = some c ∧ l[l.length - 1]? = some d ∧ l.drop (l.length - 4) = [a, b, c, d] := by
  have hl4 : (l.drop (l.length - 4)).length = 4 := by simp; omega
  have e : ∀ i, (l.drop (l.length - 4))[i]? = l[l.length - 4 + i]? := fun i => by rw [List.getElem?_drop]
  generalize l.drop (l.length - 4) = m at hl4 e
  match m, hl4 with
  | [a, b, c, d], _ => exact ⟨a, b, c, d, (e 0).symm, by rw [show l.length - 3 = l.length - 4 + 1 by omega]; exact (e 1).symm, by rw [show l.length - 2 = l.length - 4 + 2 by omega]; exact (e 2).symm, by rw [show l.length - 1 = l.length - 4 + 3 by omega]; exact (e 3).symm, rfl⟩
theorem RChild (h : Base) (c : List Value) (x : PCell) (hx : CellC h c x) (h4 : 4 ≤ x.data.length) : TrV Try.prog 55 [.agg c.toArray] h [] (.int .u32 (childOf x)) [] := by
  obtain ⟨hkl, hdl, ao3, ca3, rfl, hbv⟩ := hx
  refine K.enter Try.func55 rfl (Nat.le_of_ble_eq_true rfl) (fun F => ?_)
  (repeat' (first | refine X.rq ?_ | (refine X.rc ?_ ?_ <;> intro hc <;> first | (exfalso; omega) | skip)))
  refine K.l_box rfl rfl rfl (fun B => ?_)
  (repeat' (first | refine X.rq ?_ | (refine X.rc ?_ ?_ <;> intro hc <;> first | (exfalso; omega) | skip)))
  obtain ⟨b0, b1, b2, b3, g0, g1, g2, g3, gd⟩ := drop4 h4
  have h0 := b0.toNat_lt
  have h1 := b1.toNat_lt
  have h2 := b2.toNat_lt
  have h3 := b3.toNat_lt
  have k0 : x.data[((x.data.length : Int) - 4).toNat]? = some b0 := by rw [show ((x.data.length : Int) - 4).toNat = x.data.length - 4 by omega]; exact g0
  have k1 : x.data[((x.data.length : Int) - 3).toNat]? = some b1 := by rw [show ((x.data.length : Int) - 3).toNat = x.data.length - 3 by omega]; exact g1
  have k2 : x.data[((x.data.length : Int) - 2).toNat]? = some b2 := by rw [show ((x.data.length : Int) - 2).toNat = x.data.length - 2 by omega]; exact g2
  have k3 : x.data[((x.data.length : Int) - 1).toNat]? = some b3 := by rw [show ((x.data.length : Int) - 1).toNat = x.data.length - 1 by omega]; exact g3
  refine X.draw ([blk B 52 [.bool x.used, .int .u32 x.killer, .slice ao3 x.data.length ca3]]) [] (.pu 0 (.pu 2 (.pu 3 (.pu 8 (.pu 10 (.pu 11 (.pu 17 (.pu 19 (.pu 20 (.pu 26 (.pu 28 (.pu 29 (.st 1 (.st 4 (.st 5 (.pu 6 (.pu 7 (.st 9 (.st 12 (.st 13 (.pu 14 (.pu 15 (.pu 16 (.st 18 (.st 21 (.st 22 (.pu 23 (.pu 24 (.pu 25 (.st 27 (.st 30 (.st 31 (.pu 32 (.pu 33 (.pu 34 .nil))))))))))))))))))))))))))))))))))) ?_
  refine K.d_pu rfl (fun _ _ => X.fa) rfl ?_
  refine K.d_pu rfl (fun _ _ => X.mv) rfl ?_
  refine K.d_pu rfl (fun _ _ => X.bsub) rfl ?_
  refine K.d_pu rfl (fun _ _ => X.fa) rfl ?_
  refine K.d_pu rfl (fun _ _ => X.mv) rfl ?_
  refine K.d_pu rfl (fun _ _ => X.bsub) rfl ?_
  refine K.d_pu rfl (fun _ _ => X.fa) rfl ?_
  refine K.d_pu rfl (fun _ _ => X.mv) rfl ?_
  refine K.d_pu rfl (fun _ _ => X.bsub) rfl ?_
  refine K.d_pu rfl (fun _ _ => X.fa) rfl ?_
  refine K.d_pu rfl (fun _ _ => X.mv) rfl ?_
  refine K.d_pu rfl (fun _ _ => X.bsub) rfl ?_
  refine K.d_st rfl X.ld rfl ?_
  refine K.d_stE rfl (K.p_indexB hbv (Fx.und rfl) (Fx.sz rfl) rfl rfl (by omega) k0) rfl ?_
  rintro w0 ⟨p0, o0, rfl, c0⟩
  refine K.d_st rfl (K.p_load (Fx.agg rfl) rfl (K.Cel.up c0)) rfl ?_
  refine K.d_pu rfl (fun _ _ => X.cv) rfl ?_
  refine K.d_pu rfl (fun _ _ => X.bmul) rfl ?_
  refine K.d_st rfl X.ld rfl ?_
  refine K.d_stE rfl (K.p_indexB hbv (Fx.und rfl) (Fx.sz rfl) rfl rfl (by omega) k1) rfl ?_
  rintro w1 ⟨p1, o1, rfl, c1⟩
  refine K.d_st rfl (K.p_load (Fx.agg rfl) rfl (K.Cel.up c1)) rfl ?_
  refine K.d_pu rfl (fun _ _ => X.cv) rfl ?_
  refine K.d_pu rfl (fun _ _ => X.bmul) rfl ?_
  refine K.d_pu rfl (fun _ _ => X.badd) rfl ?_
  refine K.d_st rfl X.ld rfl ?_
  refine K.d_stE rfl (K.p_indexB hbv (Fx.und rfl) (Fx.sz rfl) rfl rfl (by omega) k2) rfl ?_
  rintro w2 ⟨p2, o2, rfl, c2⟩
  refine K.d_st rfl (K.p_load (Fx.agg rfl) rfl (K.Cel.up c2)) rfl ?_
  refine K.d_pu rfl (fun _ _ => X.cv) rfl ?_
  refine K.d_pu rfl (fun _ _ => X.bmul) rfl ?_
  refine K.d_pu rfl (fun _ _ => X.badd) rfl ?_
  refine K.d_st rfl X.ld rfl ?_
  refine K.d_stE rfl (K.p_indexB hbv (Fx.und rfl) (Fx.sz rfl) rfl rfl (by omega) k3) rfl ?_
  rintro w3 ⟨p3, o3, rfl, c3⟩
  refine K.d_st rfl (K.p_load (Fx.agg rfl) rfl (K.Cel.up c3)) rfl ?_
  refine K.d_pu rfl (fun _ _ => X.cv) rfl ?_
  refine K.d_pu rfl (fun _ _ => X.badd) rfl ?_
  refine K.d_pu rfl (fun _ _ => X.sg) rfl ?_
  refine K.d_nil ?_
  (repeat' (first | refine X.rq ?_ | (refine X.rc ?_ ?_ <;> intro hc <;> first | (exfalso; omega) | skip)))
  refine K.AT.drop ?_
  refine K.done (by first | exact Or.inl rfl | exact Or.inr rfl) rfl (by first | exact K.Base.le.refl _ | assumption) (H' := []) rfl ⟨?_, rfl, rfl⟩
  show Value.int _ _ = Value.int _ _
  rw [childOf, gd]
  simp only [num4, List.foldl_cons, List.foldl_nil]
  congr 1
  omega

/-! ### A page of a tree -/
def goodP (p : Pag) : Bool := mayQ p && decide (p.kind ≠ 1) && (decide (p.kind = 2) || decide (0 < p.cells.length))
theorem good_iff {p : Pag} : goodP p = true ↔ mayQ p = true ∧ p.kind ≠ 1 ∧ (p.kind = 2 ∨ 0 < p.cells.length) := by simp only [goodP, Bool.and_eq_true, Bool.or_eq_true, decide_eq_true_eq, and_assoc]
def pageQ (G : Option GetQ) (n : Nat) : Except Int Pag := if n = 0 then .error 5 else match G with
  | none => .error 1
  | some g => match g n with
    | .error e => .error e
    | .ok p => if goodP p then .ok p else .error 5
theorem pageQ_none {n : Nat} (h : ¬ n = 0) : pageQ none n = .error 1 := by unfold pageQ; rw [if_neg h]
theorem pageQ_some (g : GetQ) {n : Nat} (h : ¬ n = 0) : pageQ (some g) n = match g n with
    | .error e => .error e
    | .ok p => if goodP p then .ok p else .error 5 := by unfold pageQ; rw [if_neg h]
/-- A function that tells pages, or none. -/
def GetV (h : Base) (gv : Value) : Option GetQ → Prop
  | none => gv = .nilFunc
  | some g => ∃ f fst caps, gv = .func (.func f) (fst : List Value).toArray (caps : List Value).toArray ∧ Callable Try.prog f ∧ ∀ h', h.le h' → ∀ n : Nat, n < 4294967296 → Tr Try.prog f (fst ++ [.int .u32 n] ++ caps) h' [] (fun v h1 H1 => h1 = h' ∧ H1 = [] ∧ GetR h' (g n) v)
theorem GetV.le {h h' : Base} {gv : Value} {G : Option GetQ} (hg : GetV h gv G) (hle : h.le h') : GetV h' gv G := by
  cases G with
  | none => exact hg
  | some g =>
    obtain ⟨f, fst, caps, e, hc, ht⟩ := hg
    exact ⟨f, fst, caps, e, hc, fun h2 h3 => ht h2 (hle.trans h3)⟩
theorem getV_tree {h : Base} {cs : List Value} {t : PTree} (hx : TreeC h cs t) : GetV h (.func (.func 10) #[.agg cs.toArray] #[]) (some (treeG t)) :=
  ⟨10, [.agg cs.toArray], [], rfl, (Fx.cal rfl), fun h' hle n hn => by
    exact (TGet h' cs t n (hx.le hle) hn)⟩
/-- What comes up says why. -/
abbrev UpE {α : Type} (r : Except Int α) (v : Value) (h' : Base) (H' : List Asrt) : Prop := H' = [] ∧ ∃ e, v = failV e ∧ r = .error e
set_option maxHeartbeats 2000000 in
theorem PGPage (h : Base) (gv : Value) (G : Option GetQ) (n : Nat) (hg : GetV h gv G) (hn : n < 4294967296) :
    TrX Try.prog 31 [gv, .int .u32 n] h [] (fun v h' H' => h' = h ∧ H' = [] ∧ ∃ p cs, v = .agg cs.toArray ∧ PagC h cs p ∧ pageQ G n = .ok p) (UpE (pageQ G n)) := by
  refine K.enterX Try.func31 rfl (Nat.le_of_ble_eq_true rfl) (fun F => ?_)
  (repeat' (first | refine X.rq ?_ | (refine X.rc ?_ ?_ <;> intro hc <;> first | (exfalso; omega) | skip)))
  refine K.l_alloc (Fx.zr rfl) rfl rfl (fun B1 => ?_)
  (repeat' (first | refine X.rq ?_ | (refine X.rc ?_ ?_ <;> intro hc <;> first | (exfalso; omega) | skip)))
  refine K.l_callX (Fx.cal rfl) rfl (Need h (decide ((n : Int) ≠ 0)) 5) (K.pp [] rfl) rfl ?_ ?_
  · rintro v h' H' - ⟨rfl, rfl, h0, rfl⟩
    refine K.a_then_panic ?_
    refine K.upXD (D := [_]) (H' := []) (K.Base.le.refl _) rfl ⟨rfl, 5, rfl, ?_⟩
    have h0 : n = 0 := by simpa using h0
    unfold pageQ; rw [if_pos h0]
  rintro v h' H' - ⟨e, rfl, h0⟩
  obtain rfl := e.symm
  have h0 : ¬ n = 0 := by
    have := of_decide_eq_true h0
    omega
  (repeat' (first | refine X.rq ?_ | (refine X.rc ?_ ?_ <;> intro hc <;> first | (exfalso; omega) | skip)))
  cases G with
  | none =>
    obtain rfl : gv = .nilFunc := hg
    have hq := pageQ_none h0
    refine K.s_pure (K.p_neF0 Try.underlying61 rfl rfl rfl) rfl ?_
    refine K.l_callX (Fx.cal rfl) rfl (Need h false 1) (K.pp [] rfl) rfl ?_ ?_
    · rintro v h' H' - ⟨rfl, rfl, _, rfl⟩
      refine K.a_then_panic ?_
      exact K.upXD (D := [_]) (H' := []) (K.Base.le.refl _) rfl ⟨rfl, 1, rfl, hq⟩
    · rintro v h' H' - ⟨_, _, e⟩
      cases e
  | some g =>
    obtain ⟨f, fst, caps, rfl, hcal, ht⟩ := hg
    have hq := pageQ_some g h0
    refine K.s_pure (K.p_neF Try.underlying61 rfl rfl rfl) rfl ?_
    refine K.l_callX (Fx.cal rfl) rfl (Need h true 1) (K.pp [] rfl) rfl ?_ ?_
    · rintro v h' H' - ⟨_, _, e, _⟩
      cases e
    rintro v h' H' - ⟨e, rfl, _⟩
    obtain rfl := e.symm
    (repeat' (first | refine X.rq ?_ | (refine X.rc ?_ ?_ <;> intro hc <;> first | (exfalso; omega) | skip)))
    refine K.l_callB hcal rfl rfl (ht h (K.Base.le.refl _) n hn) (K.pp [] rfl) rfl ?_
    rintro u h' H' - ⟨e, rfl, p, cs, er, rfl, hpc, her, hres⟩
    obtain rfl := e.symm
    have hpc0 := hpc
    obtain ⟨hw, cv, rfl, ef, hsl, hel, hcs⟩ := hpc
    obtain ⟨ao, ca, rfl⟩ := hsl.len
    rw [hel] at hsl hpc0 ⊢
    (repeat' (first | refine X.rq ?_ | (refine X.rc ?_ ?_ <;> intro hc <;> first | (exfalso; omega) | skip)))
    refine K.l_alloc (Fx.zr rfl) rfl rfl (fun B2 => ?_)
    refine X.stw ?_
    simp only [List.set_cons_zero, List.set_cons_succ, List.eraseIdx_cons_zero, List.eraseIdx_cons_succ, List.cons_append, List.nil_append]
    (repeat' (first | refine X.rq ?_ | (refine X.rc ?_ ?_ <;> intro hc <;> first | (exfalso; omega) | skip)))
    refine K.l_callX (Fx.cal rfl) rfl (Need h (decide (er = 0)) er) (K.pp [] rfl) rfl ?_ ?_
    · rintro v h' H' - ⟨rfl, rfl, e, rfl⟩
      have e := of_decide_eq_false e
      rcases hres with ⟨e1, _⟩ | ⟨_, e2⟩
      · exact absurd e1 e
      refine K.a_then_panic ?_
      exact K.upXD (D := [_, _]) (H' := []) (K.Base.le.refl _) rfl ⟨rfl, er, rfl, by rw [hq, e2]⟩
    rintro v h' H' - ⟨e, rfl, e0⟩
    obtain rfl := e.symm
    have e0 := of_decide_eq_true e0
    obtain ⟨_, e2⟩ := hres.resolve_right (fun h => h.1 e0)
    rw [e2] at hq
    dsimp only at hq
    (repeat' (first | refine X.rq ?_ | (refine X.rc ?_ ?_ <;> intro hc <;> first | (exfalso; omega) | skip)))
    refine K.l_call (Fx.cal rfl) rfl (PMay h _ p hpc0) (K.pp [] rfl) rfl ?_
    rintro u h' H' - ⟨rfl, e, rfl⟩
    obtain rfl := e.symm
    (repeat' (first | refine X.rq ?_ | (refine X.rc ?_ ?_ <;> intro hc <;> first | (exfalso; omega) | skip)))
    all_goals
      refine K.l_callX (Fx.cal rfl) rfl (Need h _ 5) (K.pp [] rfl) rfl ?_ ?_
      · rintro v h' H' - ⟨rfl, rfl, e, rfl⟩
        have hgd : goodP p = false := by
          clear hq
          unfold goodP
          simp_all
        rw [hgd] at hq
        refine K.a_then_panic ?_
        exact K.upXD (D := [_, _]) (H' := []) (K.Base.le.refl _) rfl ⟨rfl, 5, rfl, hq⟩
      rintro v h' H' - ⟨e, rfl, e1⟩
      obtain rfl := e.symm
      have hgd : goodP p = true := by
        clear hq
        unfold goodP
        simp_all
      rw [hgd, if_pos rfl] at hq
      (repeat' (first | refine X.rq ?_ | (refine X.rc ?_ ?_ <;> intro hc <;> first | (exfalso; omega) | skip)))
      refine X.stw ?_
      simp only [List.set_cons_zero, List.set_cons_succ, List.eraseIdx_cons_zero, List.eraseIdx_cons_succ, List.cons_append, List.nil_append]
      (repeat' (first | refine X.rq ?_ | (refine X.rc ?_ ?_ <;> intro hc <;> first | (exfalso; omega) | skip)))
      refine K.doneXC (vs := [.agg (cP p (.slice ao p.cells.length ca)).toArray]) (by first | exact Or.inl rfl | exact Or.inr rfl) (.cell rfl (Fx.agg rfl) (Fx.sz rfl) (by first | exact K.cels_own (pre := []) (post := []) 0 rfl rfl | exact K.cels_own (pre := []) (post := []) 1 rfl rfl) .nil) (K.Base.le.refl _) (D := [_, _]) (H' := []) rfl ⟨rfl, rfl, p, _, rfl, hpc0, hq⟩
set_option maxHeartbeats 2000000 in
theorem RPage (h : Base) (cs : List Value) (t : PTree) (n : Nat) (hx : TreeC h cs t) (hn : n < 4294967296) :
    Tr Try.prog 35 [.agg cs.toArray, .int .u32 n] h [] (fun v h' H' => h' = h ∧ H' = [] ∧ GetR h (pageQ (some (treeG t)) n) v) := by
  have hx0 := hx
  obtain ⟨hb, he, hpl, pv, rfl, es, hv, hel, hr⟩ := hx
  obtain ⟨ao, ca, rfl⟩ := hv.len
  have zero : ∀ e : Int, in64 e → e ≠ 0 → pageQ (some (treeG t)) n = .error e → GetR h (pageQ (some (treeG t)) n) (.tuple #[.agg (cP noPag (.slice none 0 0)).toArray, .int .i64 e]) := fun e h1 h2 h3 => ⟨_, _, _, rfl, noPag_c h, h1, .inr ⟨h2, h3⟩⟩
  refine K.enter Try.func35 rfl (Nat.le_of_ble_eq_true rfl) (fun F => ?_)
  (repeat' (first | refine X.rq ?_ | (refine X.rc ?_ ?_ <;> intro hc <;> first | (exfalso; omega) | skip)))
  refine K.l_box rfl rfl rfl (fun B => ?_)
  refine K.l_alloc (Fx.zr rfl) rfl rfl (fun B1 => ?_)
  (repeat' (first | refine X.rq ?_ | (refine X.rc ?_ ?_ <;> intro hc <;> first | (exfalso; omega) | skip)))
  · have h0 : n = 0 := by omega
    refine X.stw ?_
    simp only [List.set_cons_zero, List.set_cons_succ, List.eraseIdx_cons_zero, List.eraseIdx_cons_succ, List.cons_append, List.nil_append]
    (repeat' (first | refine X.rq ?_ | (refine X.rc ?_ ?_ <;> intro hc <;> first | (exfalso; omega) | skip)))
    exact K.doneC (vs := [.agg (cP noPag (.slice none 0 0)).toArray, .int .i64 5]) (by first | exact Or.inl rfl | exact Or.inr rfl) (.cell rfl (Fx.agg rfl) (Fx.sz rfl) (by first | exact K.cels_own (pre := []) (post := []) 0 rfl rfl | exact K.cels_own (pre := []) (post := []) 1 rfl rfl) (.tmp rfl .nil)) (K.Base.le.refl _) (D := [_, _]) (H' := []) rfl ⟨rfl, rfl, zero 5 ⟨by decide, by decide⟩ (by decide) (by unfold pageQ; rw [if_pos h0])⟩
  have h0 : ¬ n = 0 := by omega
  have hq := pageQ_some (treeG t) h0
  refine K.l_call (Fx.cal rfl) rfl (TGet h _ t n hx0 hn) (K.pp [] rfl) rfl ?_
  rintro u h' H' - ⟨e, rfl, p, cs, er, rfl, hpc, her, hres⟩
  obtain rfl := e.symm
  have hpc0 := hpc
  obtain ⟨hw, cv, rfl, ef, hsl, hel2, hcs⟩ := hpc
  obtain ⟨ao2, ca2, rfl⟩ := hsl.len
  rw [hel2] at hsl hpc0 ⊢
  (repeat' (first | refine X.rq ?_ | (refine X.rc ?_ ?_ <;> intro hc <;> first | (exfalso; omega) | skip)))
  refine K.l_alloc (Fx.zr rfl) rfl rfl (fun B2 => ?_)
  refine X.stw ?_
  simp only [List.set_cons_zero, List.set_cons_succ, List.eraseIdx_cons_zero, List.eraseIdx_cons_succ, List.cons_append, List.nil_append]
  (repeat' (first | refine X.rq ?_ | (refine X.rc ?_ ?_ <;> intro hc <;> first | (exfalso; omega) | skip)))
  · obtain ⟨e1, e2⟩ := hres.resolve_left (fun h => by have := h.1; contradiction)
    refine X.stw ?_
    simp only [List.set_cons_zero, List.set_cons_succ, List.eraseIdx_cons_zero, List.eraseIdx_cons_succ, List.cons_append, List.nil_append]
    (repeat' (first | refine X.rq ?_ | (refine X.rc ?_ ?_ <;> intro hc <;> first | (exfalso; omega) | skip)))
    refine K.doneC (vs := [.agg (cP noPag (.slice none 0 0)).toArray, .int .i64 er]) (by first | exact Or.inl rfl | exact Or.inr rfl) (.cell rfl (Fx.agg rfl) (Fx.sz rfl) (by first | exact K.cels_own (pre := []) (post := []) 0 rfl rfl | exact K.cels_own (pre := []) (post := []) 1 rfl rfl) (.tmp rfl .nil)) (K.Base.le.refl _) (D := [_, _, _]) (H' := []) rfl ⟨rfl, rfl, zero er her e1 ?_⟩
    rw [hq, e2]
  have e0 : er = 0 := Classical.not_not.1 (by assumption)
  obtain ⟨_, e2⟩ := hres.resolve_right (fun h => h.1 e0)
  rw [e2] at hq
  dsimp only at hq
  refine K.l_call (Fx.cal rfl) rfl (RMay h _ p hpc0) (K.pp [] rfl) rfl ?_
  rintro u h' H' - ⟨rfl, e, rfl⟩
  obtain rfl := e.symm
  have hk : mayQ p = true → 1 ≤ p.kind ∧ p.kind ≤ 3 := fun h => ((mayQ_iff p).1 h).1
  (repeat' (first | refine X.rq ?_ | (refine X.rc ?_ ?_ <;> intro hc <;> first | (exfalso; omega) | skip)))
  all_goals
    refine X.stw ?_
    simp only [List.set_cons_zero, List.set_cons_succ, List.eraseIdx_cons_zero, List.eraseIdx_cons_succ, List.cons_append, List.nil_append]
    (repeat' (first | refine X.rq ?_ | (refine X.rc ?_ ?_ <;> intro hc <;> first | (exfalso; omega) | skip)))
    first
      | (have hm : mayQ p = true := by first | simpa using (by assumption : ¬ (!mayQ p) = true) | simpa using (by assumption : (!mayQ p) = false)
         have hk1 := hk hm
         have hgd : goodP p = true := good_iff.2 ⟨hm, by omega, by omega⟩
         rw [hgd, if_pos rfl] at hq
         exact K.doneC (vs := [.agg (cP p (.slice ao2 p.cells.length ca2)).toArray, .int .i64 0]) (by first | exact Or.inl rfl | exact Or.inr rfl) (.cell rfl (Fx.agg rfl) (Fx.sz rfl) (by first | exact K.cels_own (pre := []) (post := []) 0 rfl rfl | exact K.cels_own (pre := []) (post := []) 1 rfl rfl) (.tmp rfl .nil)) (K.Base.le.refl _) (D := [_, _, _]) (H' := []) rfl ⟨rfl, rfl, _, _, _, rfl, hpc0, ⟨by decide, by decide⟩, .inl ⟨rfl, hq⟩⟩)
      | (have hgd : goodP p = false := by
          clear hq
          unfold goodP
          cases hm : mayQ p <;> simp_all
         rw [hgd, if_neg (by simp)] at hq
         exact K.doneC (vs := [.agg (cP noPag (.slice none 0 0)).toArray, .int .i64 5]) (by first | exact Or.inl rfl | exact Or.inr rfl) (.cell rfl (Fx.agg rfl) (Fx.sz rfl) (by first | exact K.cels_own (pre := []) (post := []) 0 rfl rfl | exact K.cels_own (pre := []) (post := []) 1 rfl rfl) (.tmp rfl .nil)) (K.Base.le.refl _) (D := [_, _, _]) (H' := []) rfl ⟨rfl, rfl, zero 5 ⟨by decide, by decide⟩ (by decide) hq⟩)
end Go.Proofs.Ytahdbncfegedjaa.Nd
