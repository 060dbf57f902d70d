/-
  K7: slices of bytes in the base: values that read as lists of bytes; steps whose value is known by a property alone. Generic over the program. Conditions: none.
-/
import Derived.Test.YtjgfgpdkcojnmaaK6
namespace Go.K
set_option linter.unusedVariables false
set_option linter.unusedSimpArgs false

section
variable {P : Program} {n : Nat} {Q : Exit → Act → World → Prop} {E : Env} {h h' h0 : Base} {H K : List Asrt} {ops : Array Oper} {rest : List Oper}
variable {op : Op} {t t' ty : TypeId} {ps : String} {af : Array Edge} {d i : Nat} {v : Value} {x y : Operand} {dst : Option Nat} {g : Option (Nat × Bool)} {σ : Sch}

theorem s_pureE {R : Value → Prop} (hp : ∃ v, Pu P n E h H ⟨some d, op, t, ps, af, none⟩ v ∧ R v) (hd : Nat.blt d n = true) (hk : ∀ v, R v → WL P n ops Q rest ((d, v) :: E) h H) : WL P n ops Q (⟨some d, op, t, ps, af, none⟩ :: rest) E h H := by
  obtain ⟨v, hv, hr⟩ := hp
  exact s_pure hv hd (hk v hr)
theorem d_stE {R : Value → Prop} (ho : ops[i]? = some ⟨some d, op, t, ps, af, none⟩) (hp : ∃ v, Pu P n E h0 K ⟨some d, op, t, ps, af, none⟩ v ∧ R v) (hd : Nat.blt d n = true) (hk : ∀ v, R v → WS P n ops Q h0 K σ ((d, v) :: E) h H) : WS P n ops Q h0 K (.st i σ) E h H := by
  obtain ⟨v, hv, hr⟩ := hp
  exact d_st ho hv hd (hk v hr)

theorem d_stGE {j s : Nat} {want : Bool} {R : Value → Prop} (ho : ops[i]? = some ⟨some d, op, t, ps, af, some (j, want)⟩) (hj : dstOf ops j = some s) (hl : lk E s = some (.bool want)) (hp : ∃ v, Pu P n E h0 K ⟨some d, op, t, ps, af, some (j, want)⟩ v ∧ R v) (hd : Nat.blt d n = true) (hk : ∀ v, R v → WS P n ops Q h0 K σ ((d, v) :: E) h H) : WS P n ops Q h0 K (.st i σ) E h H := by
  obtain ⟨v, hv, hr⟩ := hp
  exact d_stG ho hj hl hv hd (hk v hr)

theorem Cel.up {b o : Nat} (hc : Cel h [] b o v) : Cel h K b o v := hc.sub fun _ hA => by cases hA
theorem Cel.le {b o : Nat} (hc : Cel h K b o v) (hle : h.le h') : Cel h' K b o v := ⟨fun w hw => hc.run w ⟨fun b o hb => hw.imm b o (hle.mem b o hb), hw.own⟩⟩
theorem Cels.up {b : Nat} : ∀ {l : List Value} {o : Nat}, Cels h [] b o l → Cels h K b o l
  | [], _, _ => trivial
  | _ :: _, _, hc => ⟨hc.1.up, Cels.up hc.2⟩
theorem Cels.le {b : Nat} (hle : h.le h') : ∀ {l : List Value} {o : Nat}, Cels h K b o l → Cels h' K b o l
  | [], _, _ => trivial
  | _ :: _, _, hc => ⟨hc.1.le hle, Cels.le hle hc.2⟩
theorem Cels.drop {b o : Nat} {l : List Value} (k : Nat) (hk : k ≤ l.length) (hc : Cels h K b o l) : Cels h K b (o + k) (l.drop k) := by
  have : l = l.take k ++ l.drop k := (List.take_append_drop k l).symm
  rw [this] at hc
  have := (Cels.append.1 hc).2
  rwa [List.length_take, Nat.min_eq_left hk] at this
theorem Cels.take {b o : Nat} {l : List Value} (k : Nat) (hc : Cels h K b o l) : Cels h K b o (l.take k) := by
  have : l = l.take k ++ l.drop k := (List.take_append_drop k l).symm
  rw [this] at hc
  exact (Cels.append.1 hc).1

/-- A value that reads as these bytes, in the base. -/
def BV (h : Base) (v : Value) (l : List UInt8) : Prop :=
  (∃ ao c, v = .slice ao 0 c ∧ l = []) ∨ ∃ b o c, v = .slice (some ⟨b, o, none⟩) l.length c ∧ l.length ≤ c ∧ Cels h [] b o (l.map u8)
theorem BV.nil : BV h (.slice none 0 0) [] := .inl ⟨_, _, rfl, rfl⟩
theorem BV.le {l : List UInt8} (hb : BV h v l) (hle : h.le h') : BV h' v l := hb.imp id fun ⟨b, o, c, e, hc, hcs⟩ => ⟨b, o, c, e, hc, Cels.le hle hcs⟩
theorem BV.len {l : List UInt8} (hb : BV h v l) : ∃ ao c, v = .slice ao l.length c := by
  rcases hb with ⟨ao, c, rfl, rfl⟩ | ⟨b, o, c, rfl, _⟩
  · exact ⟨_, _, rfl⟩
  · exact ⟨_, _, rfl⟩
theorem BV.src {l : List UInt8} (hb : BV h v l) : Src P h K 1 v l.length (l.map u8) := by
  rcases hb with ⟨ao, c, rfl, rfl⟩ | ⟨b, o, c, rfl, _, hc⟩
  · exact src_empty
  · exact src_cells hc.up (by simp) (by simp [u8_one])
theorem p_lenB {e : TypeId} {l : List UInt8} (hb : BV h v l) (hu : P.underlying t = some (.slice e)) (hx : lkO E x = some v) : Pu P n E h K ⟨dst, .call ⟨.builtin .len, #[x], #[t]⟩, ty, ps, af, g⟩ (.int .i64 l.length) := by
  obtain ⟨ao, c, rfl⟩ := hb.len
  exact p_lenS hu hx
/-- [0:0] of an empty slice -/
theorem p_sliceZ {e : TypeId} {s ca : Nat} {ao : Option Addr} {lo hi : Option Operand} {k1 k2 : IntKind} (hu : P.underlying t = some (.slice e)) (hs : szOf P e = some s) (hx : lkO E x = some (.slice ao 0 ca))
    (hlo : match lo with | none => True | some z => lkO E z = some (.int k1 0)) (hhi : match hi with | none => True | some z => lkO E z = some (.int k2 0)) :
    ∃ ao', Pu P n E h K ⟨dst, .slice t x lo hi none, ty, ps, af, g⟩ (.slice ao' 0 ca) :=
  ⟨if ca = 0 then ao else Option.map (fun x => x.add (0 * s)) ao, ⟨fun a w fa _ => by
    have hb : ∀ (k : IntKind) (y : Nat) (c : BoundsCode), (Instr.sliceBound (.int k 0) y c).run P w = .ok 0 w := fun k y c => by simp [Instr.sliceBound, asIntOf]
    have key : (Instr.sliceBounds true 0 ca (lo.map a.eval) (hi.map a.eval) none).run P w = .ok (0, 0, ca) w := by
      cases lo with
      | none => cases hi with
        | none => simp [Instr.sliceBounds]
        | some zh => simp [Instr.sliceBounds, fa.eval hhi, hb]
      | some zl => cases hi with
        | none => simp [Instr.sliceBounds, fa.eval hlo, hb]
        | some zh => simp [Instr.sliceBounds, fa.eval hhi, fa.eval hlo, hb]
    simp only [execOp, fa.eval hx, Instr.sliceAt, Option.map_none, Sem.run_bind, run_underlying hu, Result.andThen_ok, Instr.slice, key, run_sizeOf hs, Sem.run_pure, Nat.sub_zero, Nat.sub_self]⟩⟩
/-- v[lo:hi] -/
theorem p_sliceB {e : TypeId} {l : List UInt8} {lo hi : Option Operand} {k1 k2 : IntKind} {p q : Nat} (hb : BV h v l) (hu : P.underlying t = some (.slice e)) (hs : szOf P e = some 1) (hx : lkO E x = some v)
    (hlo : match lo with | none => p = 0 | some z => ∃ i : Int, lkO E z = some (.int k1 i) ∧ i = p) (hhi : match hi with | none => q = l.length | some z => ∃ i : Int, lkO E z = some (.int k2 i) ∧ i = q) (h1 : p ≤ q) (h2 : q ≤ l.length) :
    ∃ v', Pu P n E h K ⟨dst, .slice t x lo hi none, ty, ps, af, g⟩ v' ∧ BV h v' ((l.take q).drop p) := by
  rcases hb with ⟨ao, ca, rfl, rfl⟩ | ⟨b, o, c, rfl, hc, hcs⟩
  · have e2 : q = 0 := by simpa using h2
    have e1 : p = 0 := by omega
    subst e1 e2
    obtain ⟨ao', hz⟩ := p_sliceZ (P := P) (n := n) (h := h) (K := K) (t := t) (ty := ty) (ps := ps) (af := af) (g := g) (dst := dst) (E := E) (x := x) (lo := lo) (hi := hi) (k1 := k1) (k2 := k2) hu hs hx (by
      cases lo with
      | none => trivial
      | some z => obtain ⟨i, hi1, hi2⟩ := hlo; subst hi2; exact hi1) (by
      cases hi with
      | none => trivial
      | some z => obtain ⟨i, hi1, hi2⟩ := hhi; subst hi2; exact hi1)
    exact ⟨_, hz, .inl ⟨_, _, rfl, by simp⟩⟩
  · refine ⟨_, p_slice (l := p) (u := q) hu hs hx hlo hhi h1 (by omega) rfl, ?_⟩
    have hl : ((l.take q).drop p).length = q - p := by simp; omega
    have hcs' : Cels h [] b (o + p) (((l.take q).drop p).map u8) := by
      have := (hcs.take q).drop p (by simp; omega)
      rwa [← List.map_take, ← List.map_drop] at this
    by_cases hcp : c = p
    · rw [if_pos hcp]
      have : (l.take q).drop p = [] := List.eq_nil_of_length_eq_zero (by rw [hl]; omega)
      rw [this] at hl ⊢
      exact .inr ⟨b, o, c - p, by rw [← hl], by simp, trivial⟩
    · rw [if_neg hcp, Nat.mul_one]
      exact .inr ⟨b, o + p, c - p, by rw [hl], by rw [hl]; omega, hcs'⟩
/-- The place of v[i]. -/
theorem p_indexB {e : TypeId} {l : List UInt8} {k : IntKind} {m : Int} {c : UInt8} (hb : BV h v l) (hu : P.underlying t = some (.slice e)) (hs : szOf P e = some 1) (hx : lkO E x = some v) (hy : lkO E y = some (.int k m))
    (h0 : 0 ≤ m) (hc : l[m.toNat]? = some c) : ∃ v', Pu P n E h K ⟨dst, .indexAddr t x y, ty, ps, af, g⟩ v' ∧ ∃ b o, v' = .pointer (some ⟨b, o, none⟩) ∧ Cel h [] b o (u8 c) := by
  have hlt : m.toNat < l.length := (List.getElem?_eq_some_iff.1 hc).1
  rcases hb with ⟨_, _, rfl, rfl⟩ | ⟨b, o, ca, rfl, _, hcs⟩
  · simp at hlt
  · exact ⟨_, p_indexAddr hu hs hx hy h0 (by omega) rfl, b, _, rfl, by rw [Nat.mul_one]; exact hcs.get m.toNat (u8 c) (by simp [hc])⟩
theorem p_textB {e : TypeId} {l : List UInt8} (hb : BV h v l) (hu : P.underlying t = some (.slice e)) (he : P.underlying e = some (.int .u8)) (hu2 : P.underlying t' = some .string) (hx : lkO E x = some v) :
    Pu P n E h K ⟨dst, .convert t t' x, ty, ps, af, g⟩ (.string ⟨l.toArray⟩) := by
  rcases hb with ⟨_, _, rfl, rfl⟩ | ⟨b, o, ca, rfl, _, hcs⟩
  · exact p_toText0 hu he hu2 hx
  · exact p_toText hu he hu2 hx hcs.up

/-- An owned row of bytes becomes part of the base. -/
theorem Ok.freezeBuf {T : TypeId} {a : Option Nat} {cap : Nat} {l : List UInt8} {w : World} (ok : Ok h (bufA T 1 a l.length cap (l.map u8) :: H) w) : ∃ h', h.le h' ∧ BV h' (bufV a l.length cap) l ∧ Ok h' H w := by
  have hown := ok.own_head
  cases a with
  | none =>
    obtain ⟨e1, e2, e3⟩ := hown
    have : l = [] := by simpa using e3
    subst this; subst e2
    exact ⟨h, Base.le.refl h, BV.nil, ok.drop⟩
  | some b =>
    obtain ⟨sp, fz, g1, g2, g3, g4, g5, g6⟩ := hown
    have ok2 : Ok h (blkF b T (l.map u8 ++ sp) fz :: H) w := by
      refine ⟨ok.os, ok.tape, ok.output, ⟨ok.sat.imm, fun A hA => ?_⟩, ok.nd, ok.dj⟩
      rcases List.mem_cons.1 hA with rfl | hA'
      · exact g1
      · exact ok.sat.own A (List.mem_cons_of_mem _ hA')
    obtain ⟨f1, f2, f3⟩ := ok2.freeze
    refine ⟨_, f1, .inr ⟨b, 0, cap, rfl, g4, cels_of fun j u hj => ?_⟩, f3⟩
    rw [Nat.zero_add]
    refine cel_mem f2 ?_
    have hlt : j < (l.map u8).length := (List.getElem?_eq_some_iff.1 hj).1
    rw [List.getElem?_append_left hlt]; exact hj
theorem AT.freezeBuf {q : Exit} {T : TypeId} {a : Option Nat} {cap : Nat} {l : List UInt8} (hk : ∀ h', h.le h' → BV h' (bufV a l.length cap) l → AT P n Q q E h' H) : AT P n Q q E h (bufA T 1 a l.length cap (l.map u8) :: H) :=
  ⟨fun a w fa ok => by obtain ⟨h', h1, h2, h3⟩ := ok.freezeBuf; exact (hk h' h1 h2).run _ w fa h3⟩
theorem WL.freezeBuf {L : List Oper} {T : TypeId} {a : Option Nat} {cap : Nat} {l : List UInt8} (hk : ∀ h', h.le h' → BV h' (bufV a l.length cap) l → WL P n ops Q L E h' H) : WL P n ops Q L E h (bufA T 1 a l.length cap (l.map u8) :: H) :=
  ⟨fun a w fa ok => by obtain ⟨h', h1, h2, h3⟩ := ok.freezeBuf; exact (hk h' h1 h2).run _ w fa h3⟩
theorem WC.freezeBuf {c : Code} {T : TypeId} {a : Option Nat} {cap : Nat} {l : List UInt8} (hk : ∀ h', h.le h' → BV h' (bufV a l.length cap) l → WC P n c Q E h' H) : WC P n c Q E h (bufA T 1 a l.length cap (l.map u8) :: H) :=
  ⟨fun a w fa ok => by obtain ⟨h', h1, h2, h3⟩ := ok.freezeBuf; exact (hk h' h1 h2).run _ w fa h3⟩

/-- The guard was not reached. -/
def isB : Value → Bool | .bool _ => true | _ => false
theorem yielded_undef {a : Act} {j s : Nat} {u : Value} (fa : Fr n E a) (hj : dstOf ops j = some s) (hl : lk E s = some u) (hu : isB u = false) : yielded ops a.tmps j = none := by
  unfold dstOf at hj
  cases u <;> simp [isB] at hu <;> simp [yielded, hj, fa.get s _ hl]
theorem s_skipU {j s : Nat} {want : Bool} {u : Value} (hj : dstOf ops j = some s) (hl : lk E s = some u) (hu : isB u = false) (hd : Nat.blt d n = true) (hk : WL P n ops Q rest ((d, undef) :: E) h H) :
    WL P n ops Q (⟨some d, op, t, ps, af, some (j, want)⟩ :: rest) E h H :=
  ⟨fun a w fa ok => by
    unfold wpList
    rw [if_neg (by simp [Region.wanted, yielded_undef fa hj hl hu])]
    exact hk.run _ _ (fa.put undef hd) ok⟩
theorem d_skipU {j s : Nat} {want : Bool} {u : Value} (ho : ops[i]? = some ⟨some d, op, t, ps, af, some (j, want)⟩) (hj : dstOf ops j = some s) (hl : lk E s = some u) (hu : isB u = false) (hd : Nat.blt d n = true) (hk : WS P n ops Q h0 K σ ((d, undef) :: E) h H) : WS P n ops Q h0 K (.pu i σ) E h H :=
  ⟨fun a w fa ok => ⟨_, undef, ho, .inr ⟨by simp [Region.wanted, yielded_undef fa hj hl hu], rfl⟩, hk.run _ _ (fa.put undef hd) ok⟩⟩
end
end Go.K
