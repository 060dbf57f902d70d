/-
  KV: memory that came up behind a base: frozen, and taken back to be written. Generic over the program. Conditions: none.
-/
import Derived.Test.YtihambjhlhgaeaaKZ
namespace Go.K
/-- A slice of memory that came up behind a base, and may be written. -/
def Fsh (h0 h : Base) (sz : Nat) (v : Value) : Prop := ∀ ao n c, v = .slice ao n c → 0 < n → ∃ b arr T fz, ao = some ⟨b, 0, none⟩ ∧ h0.mem b = none ∧ h.mem b = some (.cells arr T fz) ∧ ∀ i, i < n * sz → (decide (fz.1 ≤ i) && decide (i < fz.2)) = false
theorem Fsh.le {h0 h0' h h' : Base} {sz : Nat} {v : Value} (hf : Fsh h0 h sz v) (h1 : h0'.le h0) (h2 : h.le h') : Fsh h0' h' sz v := fun ao n c e hn => by
  obtain ⟨b, arr, T, fz, e1, e2, e3, e4⟩ := hf ao n c e hn
  refine ⟨b, arr, T, fz, e1, ?_, h2.mem _ _ e3, e4⟩
  cases hm : h0'.mem b with
  | none => rfl
  | some o => rw [h1.mem _ _ hm] at e2; cases e2
theorem Fsh.nil {h0 h : Base} {sz c : Nat} {ao : Option Addr} : Fsh h0 h sz (.slice ao 0 c) := fun _ n _ e hn => by
  injection e with _ e2 _
  omega
section
variable {P : Program} {n : Nat} {Q : Exit → Act → World → Prop} {E : Env} {h h' h0 : Base} {H K R F : List Asrt} {ops : Array Oper} {rest : List Oper}
variable {op : Op} {t t' ty : TypeId} {ps : String} {af : Array Edge} {d i : Nat} {v : Value} {x y : Operand} {dst : Option Nat} {g : Option (Nat × Bool)}
theorem Ok.freezeBufF {T : TypeId} {a : Option Nat} {cap : Nat} {l : List UInt8} {w : World} (ok : Ok h (bufA T 1 a l.length cap (l.map u8) :: H) w) : ∃ h', h.le h' ∧ BV h' (bufV a l.length cap) l ∧ Fsh h h' 1 (bufV a l.length cap) ∧ Ok h' H w := by
  have hown := ok.own_head
  cases a with
  | none =>
    obtain ⟨e1, e2, e3⟩ := hown
    have : l = [] := by simpa using e3
    subst this; subst e2
    exact ⟨h, Base.le.refl h, BV.nil, Fsh.nil, ok.drop⟩
  | some b =>
    obtain ⟨sp, fz, g1, g2, g3, g4, g5, g6⟩ := hown
    have ok2 : Ok h (blkF b T (l.map u8 ++ sp) fz :: H) w := by
      refine ⟨ok.os, ok.tape, ok.output, ⟨ok.sat.imm, fun A hA => ?_⟩, ok.nd, ok.dj⟩
      rcases List.mem_cons.1 hA with rfl | hA'
      · exact g1
      · exact ok.sat.own A (List.mem_cons_of_mem _ hA')
    obtain ⟨f1, f2, f3⟩ := ok2.freeze
    refine ⟨_, f1, .inr ⟨b, 0, cap, rfl, g4, cels_of fun j u hj => ?_⟩, fun ao n c e hn => ?_, f3⟩
    · rw [Nat.zero_add]
      refine cel_mem f2 ?_
      have hlt : j < (l.map u8).length := (List.getElem?_eq_some_iff.1 hj).1
      rw [List.getElem?_append_left hlt]; exact hj
    · cases e
      exact ⟨b, _, T, fz, rfl, ok2.dj b (by simp [idsOf, blkF]), f2, fun i hi => g6 i (Nat.lt_of_lt_of_le hi (Nat.mul_le_mul_right _ g4))⟩
theorem WL.freezeBufF {L : List Oper} {T : TypeId} {a : Option Nat} {cap : Nat} {l : List UInt8} (hk : ∀ h', h.le h' → BV h' (bufV a l.length cap) l → Fsh h h' 1 (bufV a l.length cap) → WL P n ops Q L E h' H) : WL P n ops Q L E h (bufA T 1 a l.length cap (l.map u8) :: H) :=
  ⟨fun a w fa ok => by obtain ⟨h', h1, h2, h3, h4⟩ := ok.freezeBufF; exact (hk h' h1 h2 h3).run _ w fa h4⟩
/-- Rows are frozen; each step of it is told by the step that is known. -/
theorem Ok.freezeRowF {T sz : Nat} {a : Option Nat} {cap : Nat} {es : List (List Value)} {w : World} (hz : ∀ e ∈ es, e.length = sz) (ok : Ok h (bufA T sz a es.length cap es.flatten :: H) w) : ∃ h', h.le h' ∧ SL h' sz (bufV a es.length cap) es ∧ es.length ≤ cap ∧ Fsh h h' sz (bufV a es.length cap) ∧ Ok h' H w := by
  have hown := ok.own_head
  cases a with
  | none =>
    obtain ⟨e1, e2, e3⟩ := hown
    have : es = [] := List.eq_nil_of_length_eq_zero e1
    subst this; subst e2
    exact ⟨h, Base.le.refl h, .inl ⟨_, _, rfl, rfl⟩, Nat.le_refl _, Fsh.nil, ok.drop⟩
  | some b =>
    obtain ⟨sp, fz, g1, g2, g3, g4, g5, g6⟩ := hown
    have ok2 : Ok h (blkF b T (es.flatten ++ sp) fz :: H) w := by
      refine ⟨ok.os, ok.tape, ok.output, ⟨ok.sat.imm, fun A hA => ?_⟩, ok.nd, ok.dj⟩
      rcases List.mem_cons.1 hA with rfl | hA'
      · exact g1
      · exact ok.sat.own A (List.mem_cons_of_mem _ hA')
    obtain ⟨f1, f2, f3⟩ := ok2.freeze
    refine ⟨_, f1, .inr ⟨b, 0, cap, rfl, g4, fun j hj => ⟨hz _ (List.getElem_mem hj), ?_⟩⟩, g4, fun ao n c e hn => ?_, f3⟩
    · refine cels_of fun i u hu => cel_mem f2 ?_
      have hfl := flat_get (sp := sp) hz (List.getElem?_eq_getElem hj) hu
      rw [show 0 + j * sz + i = j * sz + i by omega]
      exact hfl
    · cases e
      exact ⟨b, _, T, fz, rfl, ok2.dj b (by simp [idsOf, blkF]), f2, fun i hi => g6 i (Nat.lt_of_lt_of_le hi (Nat.mul_le_mul_right _ g4))⟩
theorem AT.freezeRowF {q : Exit} {T sz : Nat} {a : Option Nat} {cap : Nat} {es : List (List Value)} (hz : ∀ e ∈ es, e.length = sz) (hk : ∀ h', h.le h' → SL h' sz (bufV a es.length cap) es → es.length ≤ cap → Fsh h h' sz (bufV a es.length cap) → AT P n Q q E h' H) : AT P n Q q E h (bufA T sz a es.length cap es.flatten :: H) :=
  ⟨fun a w fa ok => by obtain ⟨h', h1, h2, h3, h4, h5⟩ := ok.freezeRowF hz; exact (hk h' h1 h2 h3 h4).run _ w fa h5⟩

/-! Memory that came up behind a base, all of it, taken back. -/
def isCells : Option Obj → Bool
  | some (.cells _ _ _) => true
  | _ => false
/-- Its blocks, with what stands in them now. -/
def spA (h' : Base) (L : List Nat) (g : Nat → List Value) : Asrt where
  ids := L
  holds w := ∀ b ∈ L, ∃ arr T fz, h'.mem b = some (.cells arr T fz) ∧ w.heap[b]? = some (.cells (g b).toArray T fz)
  live w hw b hb := by
    obtain ⟨arr, T, fz, _, h2⟩ := hw b hb
    exact heap_lt h2
  loc w w' hb hw b hL := by
    obtain ⟨arr, T, fz, h1, h2⟩ := hw b hL
    exact ⟨arr, T, fz, h1, by rw [hb b hL]; exact h2⟩
/-- Numbers alone may have turned. -/
def cmp1 (u v : Value) : Prop := u = v ∨ ∃ k a b, u = .int k a ∧ v = .int k b
def Cmp (h' : Base) (L : List Nat) (g : Nat → List Value) : Prop := ∀ b ∈ L, ∀ arr T fz, h'.mem b = some (.cells arr T fz) → (g b).length = arr.size ∧ ∀ (i : Nat) u, arr[i]? = some u → ∃ u', (g b)[i]? = some u' ∧ cmp1 u u'
/-- What a base says of its own cells. -/
theorem cel_arr {b : Nat} {arr : Array Value} {T : TypeId} {fz : Nat × Nat} {u : Value} (hw : ∃ w, Sat h' [] w) (hm : h'.mem b = some (.cells arr T fz)) (hc : Cel h' [] b i u) : arr[i]? = some u := by
  obtain ⟨w, hs⟩ := hw
  have h1 := hs.imm _ _ hm
  have h2 := hc.run w hs
  simpa [World.cell?, h1] using h2
theorem Ok.thaw {w : World} (hle : h.le h') (ok : Ok h' F w) : ∃ L g, (∃ w, Sat h' [] w) ∧ Cmp h' L g ∧ (∀ b arr T fz, h.mem b = none → h'.mem b = some (.cells arr T fz) → b ∈ L) ∧ Ok h (spA h' L g :: F) w := by
  let L := (List.range w.heap.size).filter fun b => (h.mem b).isNone && isCells (h'.mem b)
  let g : Nat → List Value := fun b => match h'.mem b with
    | some (.cells arr _ _) => arr.toList
    | _ => []
  have hL : ∀ b, b ∈ L ↔ b < w.heap.size ∧ (h.mem b).isNone = true ∧ isCells (h'.mem b) = true := fun b => by
    simp [L, List.mem_filter]
  have hobj : ∀ b ∈ L, ∃ arr T fz, h'.mem b = some (.cells arr T fz) := fun b hb => by
    have := ((hL b).1 hb).2.2
    cases hm : h'.mem b with
    | none => rw [hm] at this; cases this
    | some o =>
      rw [hm] at this
      cases o with
      | cells arr T fz => exact ⟨arr, T, fz, rfl⟩
      | _ => cases this
  refine ⟨L, g, ⟨w, ok.sat0⟩, fun b hb arr T fz hm => ?_, fun b arr T fz h1 h2 => ?_, ?_⟩
  · have hg : g b = arr.toList := by show (match h'.mem b with | some (.cells arr _ _) => arr.toList | _ => []) = _; rw [hm]
    rw [hg]
    exact ⟨by simp, fun i u hu => ⟨u, by simpa using hu, .inl rfl⟩⟩
  · exact (hL b).2 ⟨heap_lt (ok.sat.imm _ _ h2), by rw [h1]; rfl, by rw [h2]; rfl⟩
  · refine ⟨ok.os.trans hle.os, ok.tape.trans hle.tape, ok.output.trans hle.output, ⟨fun b o hb => ok.sat.imm _ _ (hle.mem _ _ hb), fun A hA => ?_⟩, ?_, fun b hb => ?_⟩
    · rcases List.mem_cons.1 hA with rfl | hA
      · intro b hb
        obtain ⟨arr, T, fz, hm⟩ := hobj b hb
        have hg : g b = arr.toList := by show (match h'.mem b with | some (.cells arr _ _) => arr.toList | _ => []) = _; rw [hm]
        exact ⟨arr, T, fz, hm, by rw [hg]; exact ok.sat.imm _ _ hm⟩
      · exact ok.sat.own A hA
    · show (L ++ idsOf F).Nodup
      refine List.nodup_append.2 ⟨(List.filter_sublist (l := List.range w.heap.size)).nodup List.nodup_range, ok.nd, fun a ha b hb e => ?_⟩
      subst e
      obtain ⟨arr, T, fz, hm⟩ := hobj a ha
      rw [ok.dj a hb] at hm
      cases hm
    · rcases List.mem_append.1 (show b ∈ L ++ idsOf F from hb) with hb | hb
      · have := ((hL b).1 hb).2.1
        cases hm : h.mem b with
        | none => rfl
        | some o => rw [hm] at this; cases this
      · cases hm : h.mem b with
        | none => rfl
        | some o =>
          have h1 := hle.mem _ _ hm
          rw [ok.dj b hb] at h1
          cases h1
theorem WL.thaw {l : List Oper} (hle : h.le h') (hk : ∀ L g, (∃ w, Sat h' [] w) → Cmp h' L g → (∀ b arr T fz, h.mem b = none → h'.mem b = some (.cells arr T fz) → b ∈ L) → WL P n ops Q l E h (spA h' L g :: F)) : WL P n ops Q l E h' F :=
  ⟨fun a w fa ok => by obtain ⟨L, g, h1, h2, h3, h4⟩ := ok.thaw hle; exact (hk L g h1 h2 h3).run _ w fa h4⟩
theorem cel_sp {L : List Nat} {gg : Nat → List Value} {b o : Nat} {u : Value} (j : Nat) (hj : K[j]? = some (spA h' L gg)) (hb : b ∈ L) (hc : (gg b)[o]? = some u) : Cel h K b o u :=
  ⟨fun w hs => by
    obtain ⟨arr, T, fz, _, h2⟩ := hs.own _ (List.mem_of_getElem? hj) b hb
    simp [World.cell?, h2, hc]⟩
def upd (gg : Nat → List Value) (b o : Nat) (u : Value) : Nat → List Value := fun x => if x = b then (gg b).set o u else gg x
theorem Cmp.upd {L : List Nat} {gg : Nat → List Value} {b o : Nat} {k : IntKind} {a c : Int} (hc : Cmp h' L gg) (hg : (gg b)[o]? = some (.int k a)) : Cmp h' L (upd gg b o (.int k c)) := fun x hx arr T fz hm => by
  obtain ⟨h1, h2⟩ := hc x hx arr T fz hm
  unfold K.upd
  by_cases e : x = b
  · subst e
    rw [if_pos rfl]
    refine ⟨by simpa using h1, fun i u hu => ?_⟩
    obtain ⟨u', hu1, hu2⟩ := h2 i u hu
    by_cases ei : i = o
    · subst ei
      rw [hg] at hu1
      cases hu1
      refine ⟨.int k c, by simp [(List.getElem?_eq_some_iff.1 hg).1], .inr ?_⟩
      rcases hu2 with rfl | ⟨k2, a2, b2, rfl, e2⟩
      · exact ⟨k, a, c, rfl, rfl⟩
      · cases e2; exact ⟨k, a2, c, rfl, rfl⟩
    · exact ⟨u', by rw [List.getElem?_set_ne (fun e => ei e.symm)]; exact hu1, hu2⟩
  · rw [if_neg e]
    exact ⟨h1, h2⟩
theorem Ok.storeSp {L : List Nat} {gg : Nat → List Value} {b o : Nat} {w : World} (hb : b ∈ L) (ok : Ok h (spA h' L gg :: H) w) (u : Value) : Ok h (spA h' L (upd gg b o u) :: H) (w.setCell ⟨b, o, none⟩ u) := by
  have hown := ok.own_head
  have hne : ∀ x ∈ idsOf H, x ≠ b := fun x hx e => by
    have hnd : (L ++ idsOf H).Nodup := ok.nd
    subst e
    exact (List.nodup_append.1 hnd).2.2 x hb x hx rfl
  have hoth : ∀ x, x ≠ b → (w.setCell ⟨b, o, none⟩ u).heap[x]? = w.heap[x]? := fun x hx => RowKit.Below.heap_setCell _ _ _ _ hx
  refine ⟨ok.os, ok.tape, ok.output, ⟨fun x ob hx => ?_, fun A hA => ?_⟩, ok.nd, ok.dj⟩
  · have hxb : x ≠ b := fun e => by
      subst e
      have := ok.dj x (List.mem_append_left _ hb)
      rw [hx] at this; cases this
    rw [hoth x hxb]
    exact ok.sat.imm x ob hx
  · rcases List.mem_cons.1 hA with rfl | hA
    · intro x hx
      obtain ⟨arr, T, fz, h1, h2⟩ := hown x hx
      refine ⟨arr, T, fz, h1, ?_⟩
      unfold K.upd
      by_cases e : x = b
      · subst e
        rw [if_pos rfl]
        simp [World.setCell, Array.getElem?_modify, h2]
      · rw [if_neg e, hoth x e]; exact h2
    · refine A.loc w _ (fun x hx => hoth x (hne x ?_)) (ok.sat.own A (List.mem_cons_of_mem _ hA))
      exact List.mem_flatMap.2 ⟨A, hA, hx⟩
/-- A number is stored into it. -/
theorem l_storeSp {L : List Nat} {gg : Nat → List Value} {b o : Nat} {arr : Array Value} {T : TypeId} {fz : Nat × Nat} (hs : szOf P t = some 1) (hx : lkO E x = some (.pointer (some ⟨b, o, none⟩))) (hy : lkO E y = some v) (hv : oneCell v = true)
    (hb : b ∈ L) (hm : h'.mem b = some (.cells arr T fz)) (ho : o < (gg b).length) (hz : (decide (fz.1 ≤ o) && decide (o < fz.2)) = false) (hk : WL P n ops Q rest E h (spA h' L (upd gg b o v) :: H)) :
    WL P n ops Q (⟨none, .store t x y, ty, ps, af, none⟩ :: rest) E h (spA h' L gg :: H) :=
  ⟨fun a w fa ok => wpList_plain rfl fun K hK => by
    obtain ⟨arr2, T2, fz2, h1, hw⟩ := ok.own_head b hb
    rw [hm] at h1
    cases h1
    unfold Oper.wp
    have : (execOp a.eval ⟨none, .store t x y, ty, ps, af, none⟩).run P w = .ok .skip (w.setCell ⟨b, o, none⟩ v) := by
      simp only [execOp, fa.eval hx, fa.eval hy, Instr.storeAt, Instr.sureAddr, storeVar, Sem.run_bind, Sem.run_pure, Result.andThen_ok, run_sizeOf hs, cells_one hv]
      simp only [storeCells, List.size_toArray, List.length_cons, List.length_nil, ne_eq, not_true_eq_false, ↓reduceIte, Sem.run_bind, add_none, Nat.add_zero]
      simp [run_store1 hw ho hz v hv]
    rw [this, Oper.upon_skip]
    exact hK _ _ (hk.run _ _ fa (ok.storeSp hb v))⟩
end
end Go.K
