/-
  Trees of pages: the way down; the code's. Conditions: each theorem's own.
-/
import Derived.Test.YtahdbncfegedjaaXc

namespace Go.Proofs.Ytahdbncfegedjaa.Nd
open Go Go.K Go.Proofs Go.Proofs.Ytahdbncfegedjaa Go.Proofs.Ytahdbncfegedjaa.Pg
set_option linter.unusedVariables false
set_option linter.unusedSimpArgs false
set_option maxRecDepth 10000

theorem less_tot : ∀ a b : List UInt8, (!Op.bytesLess b a) = (Op.bytesLess a b || decide (a = b))
  | [], [] => rfl
  | [], y :: b => rfl
  | x :: a, [] => by simp [Op.bytesLess]
  | x :: a, y :: b => by
    have ih := less_tot a b
    rw [Op.bytesLess, Op.bytesLess]
    rcases Nat.lt_trichotomy x.toNat y.toNat with h | h | h
    · have h1 : x < y := h
      have h2 : ¬ y < x := fun e => Nat.lt_asymm h e
      have h3 : ¬ y = x := fun e => by rw [e] at h; exact Nat.lt_irrefl _ h
      have h4 : ¬ x = y := fun e => h3 e.symm
      simp [h1, h2, h3, h4]
    · obtain rfl : x = y := UInt8.toNat_inj.1 h
      have h1 : ¬ x < x := fun e => Nat.lt_irrefl _ e
      simp only [h1, decide_false, beq_self_eq_true, Bool.true_and, Bool.false_or, List.cons.injEq, true_and]
      exact ih
    · have h1 : y < x := h
      have h2 : ¬ x < y := fun e => Nat.lt_asymm h e
      have h3 : ¬ x = y := fun e => by rw [e] at h; exact Nat.lt_irrefl _ h
      have h4 : ¬ y = x := fun e => h3 e.symm
      simp [h1, h2, h3, h4]
/-- One text below another. -/
abbrev lt8 (a b : List UInt8) : Bool := Op.bytesLess a b
theorem txt_inj (a b : List UInt8) : ((⟨a.toArray⟩ : ByteArray) = ⟨b.toArray⟩) ↔ a = b := by
  constructor
  · intro h
    have : a.toArray = b.toArray := congrArg ByteArray.data h
    simpa using this
  · rintro rfl; rfl
theorem txt_lt (a b : List UInt8) : Op.bytesLess (⟨a.toArray⟩ : ByteArray).toList (⟨b.toArray⟩ : ByteArray).toList = lt8 a b := by
  rw [ByteArray.toList_mk, ByteArray.toList_mk]
theorem txt_gt (a b : List UInt8) : (!(Op.bytesLess (⟨a.toArray⟩ : ByteArray).toList (⟨b.toArray⟩ : ByteArray).toList || decide ((⟨a.toArray⟩ : ByteArray) = ⟨b.toArray⟩))) = lt8 b a := by
  rw [txt_lt, decide_eq_decide.2 (txt_inj a b)]
  show (!(Op.bytesLess a b || decide (a = b))) = Op.bytesLess b a
  rw [← less_tot, Bool.not_not]
theorem txt_le (a b : List UInt8) : (Op.bytesLess (⟨a.toArray⟩ : ByteArray).toList (⟨b.toArray⟩ : ByteArray).toList || decide ((⟨a.toArray⟩ : ByteArray) = ⟨b.toArray⟩)) = !lt8 b a := by
  rw [txt_lt, decide_eq_decide.2 (txt_inj a b)]
  show (Op.bytesLess a b || decide (a = b)) = !Op.bytesLess b a
  rw [← less_tot]
theorem lt8_irr (a : List UInt8) : lt8 a a = false := by
  have := less_tot a a
  simp at this
  exact this
theorem lt8_asymm {a b : List UInt8} (h : lt8 a b = true) : lt8 b a = false := by
  have := less_tot b a
  rw [show Op.bytesLess a b = true from h] at this
  show Op.bytesLess b a = false
  cases hb : Op.bytesLess b a with
  | false => rfl
  | true => rw [hb] at this; simp at this
theorem lt8_trans : ∀ {a b c : List UInt8}, lt8 a b = true → lt8 b c = true → lt8 a c = true
  | _, [], _, h, _ => by cases ‹List UInt8› <;> simp [lt8, Op.bytesLess] at h
  | [], _ :: _, [], _, h => by simp [lt8, Op.bytesLess] at h
  | [], _ :: _, _ :: _, _, _ => rfl
  | _ :: _, _ :: _, [], _, h => by simp [lt8, Op.bytesLess] at h
  | x :: a, y :: b, z :: c, h1, h2 => by
    simp only [lt8, Op.bytesLess, Bool.or_eq_true, Bool.and_eq_true, decide_eq_true_eq, beq_iff_eq] at h1 h2 ⊢
    rcases h1 with h1 | ⟨rfl, h1⟩
    · rcases h2 with h2 | ⟨rfl, h2⟩
      · exact .inl (Nat.lt_trans h1 h2)
      · exact .inl h1
    · rcases h2 with h2 | ⟨rfl, h2⟩
      · exact .inl h2
      · exact .inr ⟨rfl, lt8_trans h1 h2⟩
/-- The child that a text goes to. -/
def stepF (s : List UInt8) (n : Nat) (x : Kid) : Nat := if lt8 s x.1 then n else x.2
def stepQ (p : Pag) (s : List UInt8) : Nat := (kidsQ p).foldl (stepF s) p.next
def wayQ (G : Option GetQ) (s : List UInt8) : Nat → Nat → Except Int (List Nat)
  | fuel, n => match pageQ G n with
    | .error e => .error e
    | .ok p => if p.kind = 2 then .ok [n] else match fuel with
      | 0 => .error 5
      | fuel + 1 => match wayQ G s fuel (stepQ p s) with
        | .error e => .error e
        | .ok l => .ok (n :: l)
def glueQ (pre : List Nat) : Except Int (List Nat) → Except Int (List Nat)
  | .error e => .error e
  | .ok l => .ok (pre ++ l)
theorem way_err {G : Option GetQ} {s : List UInt8} {k n : Nat} {e : Int} (h : pageQ G n = .error e) : wayQ G s k n = .error e := by
  cases k <;> (unfold wayQ; rw [h])
theorem way_leaf {G : Option GetQ} {s : List UInt8} {k n : Nat} {p : Pag} (h : pageQ G n = .ok p) (h2 : p.kind = 2) : wayQ G s k n = .ok [n] := by
  cases k <;> (unfold wayQ; rw [h]; simp [h2])
theorem way_deep {G : Option GetQ} {s : List UInt8} {n : Nat} {p : Pag} (h : pageQ G n = .ok p) (h2 : ¬ p.kind = 2) : wayQ G s 0 n = .error 5 := by
  unfold wayQ; rw [h]; simp [h2]
theorem way_next {G : Option GetQ} {s : List UInt8} {k n : Nat} {p : Pag} (h : pageQ G n = .ok p) (h2 : ¬ p.kind = 2) (pre : List Nat) : glueQ pre (wayQ G s (k + 1) n) = glueQ (pre ++ [n]) (wayQ G s k (stepQ p s)) := by
  rw [wayQ, h]
  simp only [h2, if_false]
  cases wayQ G s k (stepQ p s) <;> simp [glueQ]
theorem page_good {G : Option GetQ} {n : Nat} {p : Pag} (h : pageQ G n = .ok p) : goodP p = true := by
  unfold pageQ at h
  split at h
  · cases h
  · split at h
    · cases h
    · split at h
      · cases h
      · split at h
        · cases h; assumption
        · cases h
theorem inner_of {p : Pag} (h : goodP p = true) (h2 : ¬ p.kind = 2) : mayP p ∧ p.kind = 3 ∧ 0 < p.cells.length ∧ ∀ c ∈ p.cells, 5 ≤ c.data.length := by
  obtain ⟨a, b, c⟩ := good_iff.1 h
  have hm := (mayQ_iff p).1 a
  have h3 : p.kind = 3 := by have := hm.1; omega
  refine ⟨hm, h3, by omega, fun x hx => ?_⟩
  obtain ⟨i, hi⟩ := List.mem_iff_getElem?.1 hx
  exact (((hm.2.2.1 i x hi).2.2 b).2.1 h3).2
theorem big_of {p : Pag} (h : goodP p = true) (h2 : ¬ p.kind = 2) : big4 p := fun c hc => by
  have := (inner_of h h2).2.2.2 c hc
  omega
theorem kids_lt {p : Pag} (hw : wfP p) (hb : big4 p) : ∀ x ∈ kidsQ p, x.2 < 4294967296 := by
  intro x hx
  rcases List.mem_cons.1 hx with rfl | hx
  · exact hw.next
  · obtain ⟨c, hc, rfl⟩ := List.mem_map.1 hx
    exact childOf_lt (hb c hc)
theorem step_lt {s : List UInt8} : ∀ {l : List Kid} {n : Nat}, n < 4294967296 → (∀ x ∈ l, x.2 < 4294967296) → l.foldl (stepF s) n < 4294967296
  | [], n, hn, _ => hn
  | x :: l, n, hn, h => by
    rw [List.foldl_cons]
    refine step_lt ?_ fun y hy => h y (List.mem_cons_of_mem _ hy)
    unfold stepF
    split
    · exact hn
    · exact h x (List.mem_cons_self ..)
theorem step_stop {s : List UInt8} : ∀ {l : List Kid} {n : Nat}, (∀ x ∈ l, lt8 s x.1 = true) → l.foldl (stepF s) n = n
  | [], n, _ => rfl
  | x :: l, n, h => by
    rw [List.foldl_cons, show stepF s n x = n by unfold stepF; rw [h x (List.mem_cons_self ..)]; rfl]
    exact step_stop fun y hy => h y (List.mem_cons_of_mem _ hy)
theorem pair_of {α : Type} {R : α → α → Prop} (tr : ∀ a b c, R a b → R b c → R a c) : ∀ {l : List α}, (∀ (i : Nat) x y, l[i]? = some x → l[i + 1]? = some y → R x y) → l.Pairwise R
  | [], _ => List.Pairwise.nil
  | [a], _ => List.pairwise_singleton _ _
  | a :: b :: l, h => by
    have ih : (b :: l).Pairwise R := pair_of tr fun i x y hx hy => h (i + 1) x y (by simpa using hx) (by simpa using hy)
    have hab := h 0 a b rfl rfl
    refine List.Pairwise.cons (fun z hz => ?_) ih
    rcases List.mem_cons.1 hz with rfl | hz
    · exact hab
    · exact tr _ _ _ hab ((List.pairwise_cons.1 ih).1 z hz)
theorem key_up {p : Pag} (hm : mayP p) (h3 : p.kind = 3) {i : Nat} {x y : PCell} (hx : p.cells[i]? = some x) (hy : p.cells[i + 1]? = some y) : lt8 (keyOf x) (keyOf y) = true := by
  have := ((hm.2.2.1 (i + 1) y hy).2.2 (by omega)).2.2 (by omega)
  rw [ltPrev, show i + 1 - 1 = i by omega, hx] at this
  have h2 := of_decide_eq_true this
  rw [keyQ, keyQ, if_pos h3, if_pos h3] at h2
  show Op.bytesLess (keyOf x) (keyOf y) = true
  rw [K.less_iff]
  exact decide_eq_true h2
theorem kids_rise {p : Pag} (h : goodP p = true) (h2 : ¬ p.kind = 2) : (kidsQ p).Pairwise fun a b => lt8 a.1 b.1 = true := by
  obtain ⟨hm, h3, _, h5⟩ := inner_of h h2
  refine pair_of (R := fun a b : Kid => lt8 a.1 b.1 = true) (fun a b c h1 h2 => lt8_trans h1 h2) fun i x y hx hy => ?_
  cases i with
  | zero =>
    have hx : ([], p.next) = x := by simpa [kidsQ] using hx
    subst hx
    rw [kidsQ, List.getElem?_cons_succ, List.getElem?_map] at hy
    cases hc : p.cells[0]? with
    | none => rw [hc] at hy; cases hy
    | some c =>
      rw [hc] at hy
      obtain rfl : (keyOf c, childOf c) = y := by simpa using hy
      have hl := h5 c (List.mem_of_getElem? hc)
      have hk : (keyOf c).length = c.data.length - 4 := by simp [keyOf]
      cases hkk : keyOf c with
      | nil => rw [hkk] at hk; simp at hk; omega
      | cons a r => rfl
  | succ i =>
    rw [kidsQ, List.getElem?_cons_succ, List.getElem?_map] at hx hy
    cases hc : p.cells[i]? with
    | none => rw [hc] at hx; cases hx
    | some c =>
      cases hd : p.cells[i + 1]? with
      | none => rw [hd] at hy; cases hy
      | some d =>
        rw [hc] at hx
        rw [hd] at hy
        obtain rfl : (keyOf c, childOf c) = x := by simpa using hx
        obtain rfl : (keyOf d, childOf d) = y := by simpa using hy
        exact key_up hm h3 hc hd
theorem step_break {p : Pag} {s : List UInt8} (h : goodP p = true) (h2 : ¬ p.kind = 2) {q : List Kid} {x : Kid} (hp : q ++ [x] <+: kidsQ p) (hx : lt8 s x.1 = true) : stepQ p s = q.foldl (stepF s) p.next := by
  obtain ⟨r, hr⟩ := hp
  have hpw := kids_rise h h2
  rw [stepQ]
  rw [← hr, List.append_assoc] at hpw ⊢
  rw [List.foldl_append, List.singleton_append]
  refine step_stop fun y hy => ?_
  rcases List.mem_cons.1 hy with rfl | hy
  · exact hx
  · have := (List.pairwise_append.1 hpw).2.1
    rw [List.singleton_append] at this
    exact lt8_trans hx ((List.pairwise_cons.1 this).1 y hy)

theorem Children (h : Base) (p : Pag) (cv : Value) : Tr Try.prog 53 [.agg (cP p cv).toArray] h [] (fun v h' H' => h' = h ∧ ∃ B, v = .func (.func 76) #[] #[.pointer (some ⟨B, 0, none⟩)] ∧ H' = [blk B 55 (cP p cv)]) := by
  refine K.enter Try.func53 rfl (Nat.le_of_ble_eq_true rfl) (fun F => ?_)
  (repeat' (first | refine X.rq ?_ | (refine X.rc ?_ ?_ <;> intro hc <;> first | (exfalso; omega) | skip)))
  refine K.l_box rfl rfl rfl (fun B => ?_)
  (repeat' (first | refine X.rq ?_ | (refine X.rc ?_ ?_ <;> intro hc <;> first | (exfalso; omega) | skip)))
  refine K.s_pure (K.p_makeFunc rfl) rfl ?_
  (repeat' (first | refine X.rq ?_ | (refine X.rc ?_ ?_ <;> intro hc <;> first | (exfalso; omega) | skip)))
  refine K.done (by first | exact Or.inl rfl | exact Or.inr rfl) rfl (by first | exact K.Base.le.refl _ | assumption) (H' := [blk B 55 (cP p cv)]) rfl ⟨rfl, B, rfl, rfl⟩
/-- Numbers in the base. -/
def U32s (h : Base) (v : Value) (l : List Nat) : Prop := SL h 1 v (l.map fun n => [uV n]) ∧ ∀ x ∈ l, x < 4294967296
theorem U32s.le {h h' : Base} {v : Value} {l : List Nat} (hb : U32s h v l) (hle : h.le h') : U32s h' v l := ⟨SL.le hb.1 hle, hb.2⟩
theorem U32s.nil {h : Base} : U32s h (.slice none 0 0) [] := ⟨SL.nil, fun x hx => by cases hx⟩
theorem flat_u (l : List Nat) : (l.map fun n => [uV n]).flatten = l.map uV := by
  induction l with
  | nil => rfl
  | cons a l ih => simp [ih]
section
variable {P : Program} {n : NN} {Q : Exit → Act → World → Prop} {E : Env} {h : Base} {H : List Asrt} {ops : Array Oper}
theorem AT.freezeU {q : Exit} {T cap : Nat} {a : Option Nat} {l : List Nat} (hl : ∀ x ∈ l, x < 4294967296) (hk : ∀ h', h.le h' → U32s h' (bufV a l.length cap) l → AT P n Q q E h' H) : AT P n Q q E h (bufA T 1 a l.length cap (l.map uV) :: H) := by
  have := AT.freezeRow (P := P) (n := n) (Q := Q) (E := E) (H := H) (q := q) (T := T) (sz := 1) (a := a) (cap := cap) (es := l.map fun n => [uV n]) (fun e he => by
    obtain ⟨x, _, rfl⟩ := List.mem_map.1 he
    rfl) (fun h' h1 h2 _ => by
    rw [List.length_map] at h2
    exact hk h' h1 ⟨h2, hl⟩)
  rw [flat_u, List.length_map] at this
  exact this
theorem WL.freezeU {L : List Oper} {T cap : Nat} {a : Option Nat} {l : List Nat} (hl : ∀ x ∈ l, x < 4294967296) (hk : ∀ h', h.le h' → U32s h' (bufV a l.length cap) l → WL P n ops Q L E h' H) : WL P n ops Q L E h (bufA T 1 a l.length cap (l.map uV) :: H) := by
  have := WL.freezeRow (P := P) (n := n) (ops := ops) (Q := Q) (E := E) (H := H) (L := L) (T := T) (sz := 1) (a := a) (cap := cap) (es := l.map fun n => [uV n]) (fun e he => by
    obtain ⟨x, _, rfl⟩ := List.mem_map.1 he
    rfl) (fun h' h1 h2 _ => by
    rw [List.length_map] at h2
    exact hk h' h1 ⟨h2, hl⟩)
  rw [flat_u, List.length_map] at this
  exact this
theorem cel_u {KK : List Asrt} {T b m cap j : Nat} {l : List Nat} {y : Nat} (i : Nat) (hi : KK[i]? = some (bufA T 1 (some b) m cap (l.map uV))) (hy : l[j]? = some y) : Cel h KK b j (uV y) := by
  have := cel_rowZ (h := h) (T := T) (s := 1) (b := b) (m := m) (cap := cap) (i := j) (q := 0) (es := l.map fun n => [uV n]) (c := [uV y]) (u := uV y) i (by rw [flat_u]; exact hi) (fun e he => by
    obtain ⟨x, _, rfl⟩ := List.mem_map.1 he
    rfl) (by rw [List.getElem?_map, hy]; rfl) rfl
  simpa using this
end
structure PaS where
  pre : List Nat
  n : Nat
  Ds : List Nat
  a : Option Nat
  cap : Nat
set_option maxHeartbeats 4000000 in
theorem PPath (h : Base) (gv : Value) (G : Option GetQ) (root : Nat) (s : List UInt8) (hg : GetV h gv G) (hroot : root < 4294967296) :
    TrX Try.prog 26 [gv, uV root, txt s] h [] (fun v h' H' => H' = [] ∧ ∃ l, wayQ G s 7 root = .ok l ∧ U32s h' v l) (UpE (wayQ G s 7 root)) := by
  refine K.enterMX Try.func26 rfl (Nat.le_of_ble_eq_true rfl) (fun F => K.WB.of ?_)
  (repeat' (first | refine X.rq ?_ | (refine X.rc ?_ ?_ <;> intro hc <;> first | (exfalso; omega) | skip)))
  refine K.l_box rfl rfl rfl (fun B5 => ?_)
  (repeat' (first | refine X.rq ?_ | (refine X.rc ?_ ?_ <;> intro hc <;> first | (exfalso; omega) | skip)))
  refine X.bs (fun B => ?_)
  refine K.WL.bufOf (m := 1) (s := 1) rfl (by unfold maxLen; omega) ?_
  (repeat' (first | refine X.rq ?_ | (refine X.rc ?_ ?_ <;> intro hc <;> first | (exfalso; omega) | skip)))
  refine K.WC.marks0 ?_
  refine K.WC.perm (K.pp [1, 1, 0] rfl) ?_
  simp only [List.nil_append, List.cons_append]
  refine K.c_loopN (σ := PaS) (fun q => ⟨Try.f26.ntmps, q.Ds.map K.mark⟩) (fun q => [(0, gv), (5, .pointer (some ⟨B5, 0, none⟩)), (7, bufV q.a (q.pre.length + 1) q.cap)]) (fun _ => h) (fun q => bufA 23 1 q.a (q.pre.length + 1) q.cap ((q.pre ++ [q.n]).map uV) :: blk B5 9 [txt s] :: all (marksA q.Ds) :: F)
    (fun q => q.pre.length ≤ 7 ∧ q.n < 4294967296 ∧ (∀ x ∈ q.pre, x < 4294967296) ∧ wayQ G s 7 root = glueQ q.pre (wayQ G s (7 - q.pre.length) q.n)) (fun q => 8 - q.pre.length) ⟨[], root, [], some B, 1⟩ ⟨Nat.zero_le _, hroot, (fun x hx => by cases hx), ?_⟩ rfl (by repeat (first | exact K.Sub.nil _ | refine K.Sub.cons rfl ?_)) rfl rfl ?_
  · show _ = glueQ [] (wayQ G s 7 root)
    cases wayQ G s 7 root <;> rfl
  rintro ⟨pre, nn, Ds, a, cap⟩ ⟨hlen, hnn, hpre, hq⟩ KL hKL
  simp only at hlen hnn hpre hq ⊢
  have hpn : ∀ x ∈ pre ++ [nn], x < 4294967296 := fun x hx => by
    rcases List.mem_append.1 hx with hx | hx
    · exact hpre x hx
    · rw [List.mem_singleton.1 hx]; exact hnn
  obtain ⟨m, hm⟩ : ∃ m, m = pre.length + 1 := ⟨_, rfl⟩
  rw [← hm]
  refine K.WC.someBuf 0 rfl (by omega) (fun b hb => ?_)
  subst hb
  (repeat' (first | refine X.rq ?_ | (refine X.rc ?_ ?_ <;> intro hc <;> first | (exfalso; omega) | skip)))
  have ho : ((m : Int) - 1).toNat = pre.length := by omega
  refine K.s_pure (K.p_load (v := uV nn) (Fx.agg rfl) rfl (by
    show Cel _ _ _ ((m : Int) - 1).toNat _
    rw [ho]
    exact cel_u 0 rfl (by simp))) rfl ?_
  refine K.l_callX (Fx.cal rfl) rfl (PGPage h gv G nn hg hnn) (K.pp [] rfl) rfl ?_ ?_
  · rintro v h' H' hle ⟨rfl, e, rfl, he⟩
    repeat (first | with_reducible refine K.a_then_panic ?_ | with_reducible refine K.a_block_panic ?_)
    refine K.upMX (Ds := Ds) rfl (K.pp1 2 rfl) hle (D := [_, _]) (H' := []) rfl ⟨rfl, e, rfl, ?_⟩
    rw [hq, way_err he]; rfl
  rintro v h' H' - ⟨e, rfl, p, cs, rfl, hpc, hpq⟩
  obtain rfl := e.symm
  have hpc0 := hpc
  obtain ⟨hw, cv, rfl, ef, hsl, hel, hcs⟩ := hpc
  obtain ⟨ao, ca, rfl⟩ := hsl.len
  rw [hel] at hsl hpc0 ⊢
  refine K.l_alloc (Fx.zr rfl) rfl rfl (fun B8 => ?_)
  refine X.stw ?_
  simp only [List.set_cons_zero, List.set_cons_succ, List.eraseIdx_cons_zero, List.eraseIdx_cons_succ, List.cons_append, List.nil_append]
  (repeat' (first | refine X.rq ?_ | (refine X.rc ?_ ?_ <;> intro hc <;> first | (exfalso; omega) | skip)))
  · have h2 : p.kind = 2 := by assumption
    obtain rfl : m = (pre ++ [nn]).length := by simp; omega
    refine K.AT.sel [0] rfl ?_
    refine AT.freezeU hpn (fun h1 le1 hu1 => ?_)
    refine K.doneMX (Ds := Ds) (by first | exact Or.inl rfl | exact Or.inr rfl) rfl (K.pp1 1 rfl) (vs := [bufV (some b) (pre ++ [nn]).length cap]) (.tmp rfl .nil) le1 (D := [_]) (H' := []) rfl ⟨rfl, pre ++ [nn], ?_, hu1⟩
    rw [hq, way_leaf hpq h2]; rfl
  have h2 : ¬ p.kind = 2 := by assumption
  have hgd := page_good hpq
  have hbg := big_of hgd h2
  refine K.l_callX (Fx.cal rfl) rfl (Need h _ 5) (K.pp [] rfl) rfl ?_ ?_
  · rintro v h' H' hle ⟨e, rfl, e1, rfl⟩
    have e1 := of_decide_eq_false e1
    repeat (first | with_reducible refine K.a_then_panic ?_ | with_reducible refine K.a_block_panic ?_)
    refine K.upMX (Ds := Ds) rfl (K.pp1 3 rfl) hle (D := [_, _, _]) (H' := []) rfl ⟨rfl, 5, rfl, ?_⟩
    rw [hq, show 7 - pre.length = 0 by omega, way_deep hpq h2]; rfl
  rintro v h' H' - ⟨e, rfl, e1⟩
  obtain rfl := e.symm
  have e1 := of_decide_eq_true e1
  simp only [List.set_cons_zero, List.set_cons_succ, List.eraseIdx_cons_zero, List.eraseIdx_cons_succ, List.cons_append, List.nil_append]
  (repeat' (first | refine X.rq ?_ | (refine X.rc ?_ ?_ <;> intro hc <;> first | (exfalso; omega) | skip)))
  refine K.l_alloc (Fx.zr rfl) rfl rfl (fun B9 => ?_)
  (repeat' (first | refine X.rq ?_ | (refine X.rc ?_ ?_ <;> intro hc <;> first | (exfalso; omega) | skip)))
  refine X.sto ?_
  simp only [List.set_cons_zero, List.set_cons_succ, List.eraseIdx_cons_zero, List.eraseIdx_cons_succ, List.cons_append, List.nil_append]
  (repeat' (first | refine X.rq ?_ | (refine X.rc ?_ ?_ <;> intro hc <;> first | (exfalso; omega) | skip)))
  refine K.l_call (Fx.cal rfl) rfl (Children h p _) (K.pp [] rfl) rfl ?_
  rintro v h' H' - ⟨e, BK, rfl, rfl⟩
  obtain rfl := e.symm
  simp only [List.set_cons_zero, List.set_cons_succ, List.eraseIdx_cons_zero, List.eraseIdx_cons_succ, List.cons_append, List.nil_append]
  (repeat' (first | refine X.rq ?_ | (refine X.rc ?_ ?_ <;> intro hc <;> first | (exfalso; omega) | skip)))
  refine K.WC.perm (K.pp [1, 3] rfl) ?_
  refine K.WC.close [_, _] ?_
  refine K.c_rangeN (h := h) (Pre := [blk BK 55 (cP p (.slice ao p.cells.length ca))]) (F := blk B8 55 (cP p (.slice ao p.cells.length ca)) :: bufA 23 1 (some b) m cap ((pre ++ [nn]).map uV) :: all (marksA Ds) :: F)
    (fun q _ A => A = all [blk B9 23 [uV (q.foldl (stepF s) p.next)], blk B5 9 [txt s]])
    (fun c q _ A => c = .exit 2 ∧ ∃ q0 x, q = q0 ++ [x] ∧ lt8 s x.1 = true ∧ A = all [blk B9 23 [uV (q0.foldl (stepF s) p.next)], blk B5 9 [txt s]])
    (fun x args => [(10, txt x.1), (11, uV x.2), (5, .pointer (some ⟨B5, 0, none⟩)), (9, .pointer (some ⟨B9, 0, none⟩))])
    (KidsI h _ p BK hpc0 hbg) rfl (Fx.cal rfl) (fun h x args ⟨e, _⟩ => by rw [e]; rfl) rfl (fun _ _ _ _ _ e => e) (fun _ _ _ _ _ _ e => e) (List.Perm.swap _ _ _) rfl ?_ ?_ ?_ ?_
  · rintro l x h' args A R hle ⟨rfl, hx2⟩
    refine K.r_seq (K.r_region rfl (fun _ _ x => x) ?_)
    refine K.s_pure (K.p_assign rfl) rfl (K.l_nil (K.a_thenR ?_))
    refine K.r_region rfl (fun _ _ x => x) ?_
    refine K.s_pure (K.p_assign rfl) rfl (K.l_nil (K.a_AP (by repeat (first | exact K.Sub.nil _ | refine K.Sub.cons rfl ?_))))
  · rintro l q x h' args A R hle hpref ⟨rfl, hx2⟩ rfl
    refine K.WR.open ?_
    simp only [List.set_cons_zero, List.set_cons_succ, List.eraseIdx_cons_zero, List.eraseIdx_cons_succ, List.cons_append, List.nil_append]
    refine K.r_block (K.r_seq (K.r_seq (K.r_region rfl (fun _ _ x => x) ?_)))
    (repeat' (first | refine X.rq ?_ | (refine X.rc ?_ ?_ <;> intro hc <;> first | (exfalso; omega) | skip)))
    refine K.a_thenR ?_
    rw [txt_gt]
    refine K.r_cond rfl (fun hb => ?_) (fun hb => ?_)
    · refine K.r_exit (K.a_then_exit (K.a_block_exit_ne rfl ?_))
      exact K.AT.closed (K.pp [0, 0] rfl) (K.a_RXexit (K.Base.le.refl _) ⟨rfl, q, x, rfl, hb, rfl⟩ (List.Perm.refl _))
    · refine K.r_skip (K.a_thenR (K.r_region rfl (fun _ _ x => x) ?_))
      (repeat' (first | refine X.rq ?_ | (refine X.rc ?_ ?_ <;> intro hc <;> first | (exfalso; omega) | skip)))
      refine X.sto ?_
      simp only [List.set_cons_zero, List.set_cons_succ, List.eraseIdx_cons_zero, List.eraseIdx_cons_succ, List.cons_append, List.nil_append]
      (repeat' (first | refine X.rq ?_ | (refine X.rc ?_ ?_ <;> intro hc <;> first | (exfalso; omega) | skip)))
      refine K.AT.closed (K.pp [0, 0] rfl) (K.a_RX (K.Base.le.refl _) ?_ (List.Perm.refl _))
      rw [List.foldl_append, List.foldl_cons, List.foldl_nil, stepF, hb]
      rfl
  · rintro D h' A' hle rfl
    refine K.AT.perm (K.pp [2] rfl) (K.AT.open ?_)
    refine K.a_block ?_
    (repeat' (first | refine X.rq ?_ | (refine X.rc ?_ ?_ <;> intro hc <;> first | (exfalso; omega) | skip)))
    simp only [List.set_cons_zero, List.set_cons_succ, List.eraseIdx_cons_zero, List.eraseIdx_cons_succ, List.cons_append, List.nil_append]
    refine K.l_buildSlice (Fx.und rfl) (Fx.sz rfl) rfl (Fx.zr rfl) rfl rfl rfl rfl rfl (fun BX => ?_)
    refine K.l_append_at 6 rfl (Fx.und rfl) (Fx.und rfl) rfl (Fx.sz rfl) (Fx.zr rfl) rfl (Fx.byt rfl) rfl rfl (K.src_cells (K.cels_own (pre := []) (cs := [uV (stepQ p s)]) (post := []) 0 rfl rfl) rfl (by simp [oneCell])) (by omega) (by omega) rfl (fun a6 cap6 => ?_)
    simp only [List.set_cons_zero, List.set_cons_succ, List.eraseIdx_cons_zero, List.eraseIdx_cons_succ, List.cons_append, List.nil_append]
    (repeat' (first | refine X.rq ?_ | (refine X.rc ?_ ?_ <;> intro hc <;> first | (exfalso; omega) | skip)))
    refine K.AT.forget hle ?_
    refine K.AT.sel [0, 0, 2, 2] rfl ?_
    refine K.AT.perm (K.pp [1, 2] rfl) ?_
    refine K.AT.marksC ?_
    obtain rfl : m = (pre ++ [nn]).length := by simp; omega
    have e9 : ((pre ++ [nn]) ++ [stepQ p s]).map uV = (pre ++ [nn]).map uV ++ [uV (stepQ p s)] := by simp
    refine K.a_roundN hKL ⟨pre ++ [nn], stepQ p s, D :: Ds, a6, cap6⟩ ⟨by dsimp only; omega, step_lt hw.next (kids_lt hw hbg), hpn, ?_⟩ rfl (by repeat (first | exact K.Sub.nil _ | refine K.Sub.cons rfl ?_)) rfl ?_ (by dsimp only; omega)
    · dsimp only
      rw [hq, show 7 - pre.length = (7 - (pre ++ [nn]).length) + 1 by omega, way_next hpq h2]
    · dsimp only
      rw [e9]
      exact (K.perm3 _ _ _ _).trans (List.Perm.swap _ _ _)
  · rintro D c q h' A' hle hpref ⟨rfl, q0, x, rfl, hx, rfl⟩
    refine K.WC.perm (K.pp [2] rfl) (K.WC.open ?_)
    refine K.c_exit (K.a_block_exit ?_)
    rw [← step_break hgd h2 hpref hx]
    (repeat' (first | refine X.rq ?_ | (refine X.rc ?_ ?_ <;> intro hc <;> first | (exfalso; omega) | skip)))
    simp only [List.set_cons_zero, List.set_cons_succ, List.eraseIdx_cons_zero, List.eraseIdx_cons_succ, List.cons_append, List.nil_append]
    refine K.l_buildSlice (Fx.und rfl) (Fx.sz rfl) rfl (Fx.zr rfl) rfl rfl rfl rfl rfl (fun BX => ?_)
    refine K.l_append_at 6 rfl (Fx.und rfl) (Fx.und rfl) rfl (Fx.sz rfl) (Fx.zr rfl) rfl (Fx.byt rfl) rfl rfl (K.src_cells (K.cels_own (pre := []) (cs := [uV (stepQ p s)]) (post := []) 0 rfl rfl) rfl (by simp [oneCell])) (by omega) (by omega) rfl (fun a6 cap6 => ?_)
    simp only [List.set_cons_zero, List.set_cons_succ, List.eraseIdx_cons_zero, List.eraseIdx_cons_succ, List.cons_append, List.nil_append]
    (repeat' (first | refine X.rq ?_ | (refine X.rc ?_ ?_ <;> intro hc <;> first | (exfalso; omega) | skip)))
    refine K.AT.forget hle ?_
    refine K.AT.sel [0, 0, 2, 2] rfl ?_
    refine K.AT.perm (K.pp [1, 2] rfl) ?_
    refine K.AT.marksC ?_
    obtain rfl : m = (pre ++ [nn]).length := by simp; omega
    have e9 : ((pre ++ [nn]) ++ [stepQ p s]).map uV = (pre ++ [nn]).map uV ++ [uV (stepQ p s)] := by simp
    refine K.a_roundN hKL ⟨pre ++ [nn], stepQ p s, D :: Ds, a6, cap6⟩ ⟨by dsimp only; omega, step_lt hw.next (kids_lt hw hbg), hpn, ?_⟩ rfl (by repeat (first | exact K.Sub.nil _ | refine K.Sub.cons rfl ?_)) rfl ?_ (by dsimp only; omega)
    · dsimp only
      rw [hq, show 7 - pre.length = (7 - (pre ++ [nn]).length) + 1 by omega, way_next hpq h2]
    · dsimp only
      rw [e9]
      exact (K.perm3 _ _ _ _).trans (List.Perm.swap _ _ _)
end Go.Proofs.Ytahdbncfegedjaa.Nd
