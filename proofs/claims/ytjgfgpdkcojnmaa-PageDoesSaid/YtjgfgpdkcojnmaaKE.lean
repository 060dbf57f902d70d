/-
  KE: what is owned, lent to a function that only reads; copies and appends within an owned row; a row cleared. Generic over the program. Conditions: none.
-/
import Derived.Test.YtjgfgpdkcojnmaaKD
import Derived.Lib.Overlaps
namespace Go.K
set_option linter.unusedVariables false
set_option linter.unusedSimpArgs false
set_option maxRecDepth 10000

/-- What a base says of assertions that were frozen into it. -/
def Says (h : Base) (A : List Asrt) : Prop := (∃ w, Sat h [] w) ∧ ∀ w, Sat h [] w → ∀ a ∈ A, a.holds w
theorem Says.le {h h' : Base} {A : List Asrt} (hs : Says h A) (hw : ∃ w, Sat h' [] w) (hle : h.le h') : Says h' A := ⟨hw, fun w hs' => hs.2 w ⟨fun b o hb => hs'.imm b o (hle.mem b o hb), fun _ hA => by cases hA⟩⟩
theorem Ok.sat0 {h : Base} {H : List Asrt} {w : World} (ok : Ok h H w) : Sat h [] w := ok.sat.sub fun _ hA => by cases hA
theorem idsOf_append (A B : List Asrt) : idsOf (A ++ B) = idsOf A ++ idsOf B := by simp [idsOf]
theorem Ok.freezeA {h : Base} {A F : List Asrt} {w : World} (ok : Ok h (A ++ F) w) : ∃ h', h.le h' ∧ Says h' A ∧ Ok h' F w ∧ ∀ F' w', Ok h' F' w' → Ok h (A ++ F') w' := by
  have hnd := ok.nd
  rw [idsOf_append, List.nodup_append] at hnd
  have hdj : ∀ b ∈ idsOf A, h.mem b = none := fun b hb => ok.dj b (by rw [idsOf_append]; exact List.mem_append_left _ hb)
  have hdjF : ∀ b ∈ idsOf F, h.mem b = none := fun b hb => ok.dj b (by rw [idsOf_append]; exact List.mem_append_right _ hb)
  have hlive : ∀ b ∈ idsOf A, b < w.heap.size := fun b hb => ok.live b (by rw [idsOf_append]; exact List.mem_append_left _ hb)
  let h' : Base := ⟨h.os, h.tape, h.output, fun b => if b ∈ idsOf A then w.heap[b]? else h.mem b⟩
  have hin : ∀ b, b ∈ idsOf A → h'.mem b = w.heap[b]? := fun b hb => if_pos hb
  have hout : ∀ b, b ∉ idsOf A → h'.mem b = h.mem b := fun b hb => if_neg hb
  have hle : h.le h' := ⟨rfl, rfl, rfl, fun b o hb => by
    by_cases hm : b ∈ idsOf A
    · rw [hdj b hm] at hb; cases hb
    · rw [hout b hm]; exact hb⟩
  have okF : Ok h' F w := by
    refine ⟨ok.os, ok.tape, ok.output, ⟨fun b o hb => ?_, fun B hB => ok.sat.own B (List.mem_append_right _ hB)⟩, hnd.2.1, fun b hb => ?_⟩
    · by_cases hm : b ∈ idsOf A
      · rw [hin b hm] at hb; exact hb
      · rw [hout b hm] at hb; exact ok.sat.imm b o hb
    · have hm : b ∉ idsOf A := fun hm => hnd.2.2 b hm b hb rfl
      rw [hout b hm]; exact hdjF b hb
  have hsame : ∀ w', Sat h' [] w' → ∀ b ∈ idsOf A, w'.heap[b]? = w.heap[b]? := fun w' hs b hb => by
    have h1 := Array.getElem?_eq_getElem (hlive b hb)
    rw [h1]
    exact hs.imm b _ (by rw [hin b hb, h1])
  have hsays : ∀ w', Sat h' [] w' → ∀ a ∈ A, a.holds w' := fun w' hs a ha =>
    a.loc w w' (fun b hb => hsame w' hs b (List.mem_flatMap.2 ⟨a, ha, hb⟩)) (ok.sat.own a (List.mem_append_left _ ha))
  refine ⟨h', hle, ⟨⟨w, okF.sat0⟩, hsays⟩, okF, fun F' w' ok' => ?_⟩
  refine ⟨ok'.os, ok'.tape, ok'.output, ⟨fun b o hb => ok'.sat.imm b o (hle.mem b o hb), fun B hB => ?_⟩, ?_, fun b hb => ?_⟩
  · rcases List.mem_append.1 hB with hB | hB
    · exact hsays w' ok'.sat0 B hB
    · exact ok'.sat.own B hB
  · rw [idsOf_append, List.nodup_append]
    refine ⟨hnd.1, ok'.nd, fun a ha b hb e => ?_⟩
    subst e
    have h1 := ok'.dj a hb
    rw [hin a ha, Array.getElem?_eq_getElem (hlive a ha)] at h1
    cases h1
  · rw [idsOf_append] at hb
    rcases List.mem_append.1 hb with hb | hb
    · exact hdj b hb
    · have h1 := ok'.dj b hb
      cases hm : h.mem b with
      | none => rfl
      | some o => rw [hle.mem b o hm] at h1; cases h1

section
variable {P : Program} {n : Nat} {Q : Exit → Act → World → Prop} {E : Env} {h h' h0 : Base} {H K R F : List Asrt} {ops : Array Oper} {rest : List Oper}
variable {op : Op} {t t' ty : TypeId} {ps : String} {af : Array Edge} {d i : Nat} {v : Value} {x y : Operand} {dst : Option Nat} {g : Option (Nat × Bool)}

/-- What is owned is lent to a function that only reads. -/
theorem TrV.borrow {f : FuncId} {args : List Value} {A : List Asrt} (ht : ∀ h', h.le h' → Says h' A → TrV P f args h' R v R) : TrV P f args h (A ++ R) v (A ++ R) := fun F w ok => by
  rw [List.append_assoc] at ok
  obtain ⟨h', hle, hs, ok', thaw⟩ := ok.freezeA
  refine Calls.mono (ht h' hle hs F w ok') fun e w' ⟨u, he, h1, H1, hle1, ⟨q1, q2, q3⟩, ok1⟩ => ⟨u, he, h, _, .refl _, ⟨q1, rfl, rfl⟩, ?_⟩
  subst q2 q3
  rw [List.append_assoc]
  exact thaw _ _ ok1
/-- The same where the function hands back memory of its own. -/
theorem Tr.borrow {f : FuncId} {args : List Value} {A : List Asrt} {Q : Value → List Asrt → Prop} (ht : ∀ h', h.le h' → Says h' A → Tr P f args h' R (fun u h1 H1 => h1 = h' ∧ Q u H1)) :
    Tr P f args h (A ++ R) (fun u h1 H1 => h1 = h ∧ ∃ H2, H1 = A ++ H2 ∧ Q u H2) := fun F w ok => by
  rw [List.append_assoc] at ok
  obtain ⟨h', hle, hs, ok', thaw⟩ := ok.freezeA
  refine Calls.mono (ht h' hle hs F w ok') fun e w' ⟨u, he, h1, H1, hle1, ⟨q1, q2⟩, ok1⟩ => ⟨u, he, h, _, .refl _, ⟨rfl, H1, rfl, q2⟩, ?_⟩
  subst q1
  rw [List.append_assoc]
  exact thaw _ _ ok1
theorem AT.freezeA {q : Exit} {A : List Asrt} (hk : ∀ h', h.le h' → Says h' A → AT P n Q q E h' F) : AT P n Q q E h (A ++ F) := ⟨fun a w fa ok => by obtain ⟨h', h1, h2, h3, _⟩ := ok.freezeA; exact (hk h' h1 h2).run _ w fa h3⟩
theorem WL.freezeA {L : List Oper} {A : List Asrt} (hk : ∀ h', h.le h' → Says h' A → WL P n ops Q L E h' F) : WL P n ops Q L E h (A ++ F) := ⟨fun a w fa ok => by obtain ⟨h', h1, h2, h3, _⟩ := ok.freezeA; exact (hk h' h1 h2).run _ w fa h3⟩
theorem WC.freezeA {c : Code} {A : List Asrt} (hk : ∀ h', h.le h' → Says h' A → WC P n c Q E h' F) : WC P n c Q E h (A ++ F) := ⟨fun a w fa ok => by obtain ⟨h', h1, h2, h3, _⟩ := ok.freezeA; exact (hk h' h1 h2).run _ w fa h3⟩

theorem says_mem {A : List Asrt} {B : Asrt} (hs : Says h A) (hB : B ∈ A) : Says h [B] := ⟨hs.1, fun w hw a ha => by
  rw [List.mem_singleton] at ha; subst ha; exact hs.2 w hw a hB⟩
theorem says_all {Hs : List Asrt} (hs : Says h [all Hs]) : Says h Hs := ⟨hs.1, fun w hw a ha => hs.2 w hw _ (List.mem_singleton.2 rfl) a ha⟩
/-- A frozen row. -/
theorem says_cels {T s : Nat} {b : Nat} {m cap : Nat} {cs : List Value} (hs : Says h [bufA T s (some b) m cap cs]) : Cels h [] b 0 cs := cels_of fun j u hj => ⟨fun w hw => by
  obtain ⟨sp, fz, e, _⟩ := hs.2 w hw _ (List.mem_singleton.2 rfl)
  have hlt := (List.getElem?_eq_some_iff.1 hj).1
  have hc : (cs ++ sp)[j]? = some u := by rw [List.getElem?_append_left hlt]; exact hj
  rw [Nat.zero_add]
  exact (cel_own (K := [blkF b T (cs ++ sp) fz]) (h := h) 0 rfl hc).run w ⟨hw.imm, fun A hA => by
    rw [List.mem_singleton] at hA; subst hA; exact e⟩⟩
theorem says_bv {T : Nat} {a : Option Nat} {cap : Nat} {l : List UInt8} (hs : Says h [bufA T 1 a l.length cap (l.map u8)]) : BV h (bufV a l.length cap) l := by
  obtain ⟨w, hw⟩ := hs.1
  have := hs.2 w hw _ (List.mem_singleton.2 rfl)
  cases a with
  | none =>
    have hl : l = [] := List.eq_nil_of_length_eq_zero this.1
    subst hl
    exact .inl ⟨_, _, rfl, rfl⟩
  | some b =>
    obtain ⟨sp, fz, _, _, _, g4, _⟩ := this
    exact .inr ⟨b, 0, cap, rfl, g4, says_cels hs⟩
theorem says_sl {T sz : Nat} {a : Option Nat} {cap : Nat} {es : List (List Value)} (hz : ∀ e ∈ es, e.length = sz) (hs : Says h [bufA T sz a es.length cap es.flatten]) : SL h sz (bufV a es.length cap) es := by
  obtain ⟨w, hw⟩ := hs.1
  have := hs.2 w hw _ (List.mem_singleton.2 rfl)
  cases a with
  | none =>
    have hl : es = [] := List.eq_nil_of_length_eq_zero this.1
    subst hl
    exact .inl ⟨_, _, rfl, rfl⟩
  | some b =>
    obtain ⟨sp, fz, _, _, _, g4, _⟩ := this
    have hc := says_cels hs
    refine .inr ⟨b, 0, cap, rfl, g4, fun j hj => ⟨hz _ (List.getElem_mem hj), ?_⟩⟩
    obtain ⟨p1, p2⟩ := flat_parts es j hj hz
    rw [p1, Cels.append, Cels.append] at hc
    have := hc.1.2
    rw [p2] at this
    exact this

theorem p_compl {k : IntKind} {a c : Int} (hx : lkO E x = some (.int k a)) (hc : bits .xor k (if k.signed then -1 else k.max) a = c) : Pu P n E h K ⟨dst, .unOp .xor t x, ty, ps, af, g⟩ (.int k c) :=
  ⟨fun s w fa _ => by simp [execOp, fa.eval hx, Op.unary, Op.intBits, ← hc, bits]⟩
theorem d_skipUS {σ : Sch} {j s : Nat} {want : Bool} {u : Value} (ho : ops[i]? = some ⟨some d, op, t, ps, af, some (j, want)⟩) (hj : dstOf ops j = some s) (hl : lk E s = some u) (hu : isB u = false) (hd : Nat.blt d n = true) (hk : WS P n ops Q h0 K σ ((d, undef) :: E) h H) : WS P n ops Q h0 K (.st i σ) E h H :=
  ⟨fun a w fa ok => ⟨_, undef, ho, .inr ⟨by simp [Region.wanted, yielded_undef fa hj hl hu], rfl⟩, hk.run _ _ (fa.put undef hd) ok⟩⟩
/-! ### Copies and appends within an owned row -/
theorem l_copy {t2 : TypeId} {e s b o dl dc m k sc : Nat} {T : TypeId} {fz : Nat × Nat} {ao : Option Addr} {xs pre cs post : List Value} (hu : P.underlying t = some (.slice e)) (hs : szOf P e = some s) (hx : lkO E x = some (.slice (some ⟨b, o, none⟩) dl dc)) (hy : lkO E y = some (.slice ao m sc))
    (hk0 : Nat.min m dl = k) (hsrc : Src P h (blkF b T (pre ++ cs ++ post) fz :: H) s (.slice ao k sc) k xs) (hl : xs.length = cs.length) (ho : pre.length = o) (hf : Free fz (o + xs.length)) (hd : Nat.blt d n = true)
    (hk : WL P n ops Q rest ((d, .int .i64 k) :: E) h (blkF b T (pre ++ xs ++ post) fz :: H)) :
    WL P n ops Q (⟨some d, .call ⟨.builtin .copy, #[x, y], #[t, t2]⟩, ty, ps, af, none⟩ :: rest) E h (blkF b T (pre ++ cs ++ post) fz :: H) :=
  ⟨fun ac w fa ok => wpList_plain rfl fun KK hK => by
    subst ho
    obtain ⟨w', e1, ok'⟩ := Ok.storesF (P := P) xs pre cs post w hl hsrc.one hf ok
    have e2 : (storeCells ⟨b, pre.length, none⟩ xs).run P w = .ok () w' := by rw [storeCells_at, Nat.add_zero]; exact e1
    have e3 := hsrc.get w ok.sat
    have e4 : (Builtin.firstCells s k (.slice ao m sc)).run P w = .ok xs.toArray w := by
      cases ao <;> exact e3
    unfold Oper.wp
    have : (execOp ac.eval ⟨some d, .call ⟨.builtin .copy, #[x, y], #[t, t2]⟩, ty, ps, af, none⟩).run P w = .ok (.value (.int .i64 k)) w' := by
      rw [show (#[x, y] : Array Operand) = [x, y].toArray from rfl, run_builtin (vals := [.slice (some ⟨b, pre.length, none⟩) dl dc, .slice ao m sc]) fa (by simp [evArgs, hx, hy])]
      simp [builtin, Builtin.copy_, run_underlying hu, Builtin.lenOf, run_sizeOf hs, hk0, e4, e2]
      rfl
    rw [this, Oper.upon_value]
    exact hK _ _ (hk.run _ _ (fa.put _ hd) ok')⟩
/-- append where there is room: the row stays where it is. -/
theorem l_appendRoom {t2 : TypeId} {e s b m sLen cap : Nat} {T : TypeId} {fz : Nat × Nat} {d2 : TypeDesc} {xs pre cs post : List Value} {xv : Value} (hu : P.underlying t = some (.slice e)) (hu2 : P.underlying t2 = some d2) (hi2 : okD2 d2 = true) (hs : szOf P e = some s)
    (hx : lkO E x = some (.slice (some ⟨b, 0, none⟩) sLen cap)) (hy : lkO E y = some xv) (hsrc : Src P h (blkF b T (pre ++ cs ++ post) fz :: H) s xv m xs) (hroom : sLen + m ≤ cap) (hl : xs.length = cs.length) (ho : pre.length = sLen * s) (hf : Free fz (sLen * s + xs.length)) (hd : Nat.blt d n = true)
    (hk : WL P n ops Q rest ((d, .slice (some ⟨b, 0, none⟩) (sLen + m) cap) :: E) h (blkF b T (pre ++ xs ++ post) fz :: H)) :
    WL P n ops Q (⟨some d, .call ⟨.builtin .append, #[x, y], #[t, t2]⟩, ty, ps, af, none⟩ :: rest) E h (blkF b T (pre ++ cs ++ post) fz :: H) :=
  ⟨fun ac w fa ok => wpList_plain rfl fun KK hK => by
    obtain ⟨w', e1, ok'⟩ := Ok.storesF (P := P) xs pre cs post w hl hsrc.one (by rw [ho]; exact hf) ok
    have e2 : (storeCells ⟨b, sLen * s, none⟩ xs).run P w = .ok () w' := by rw [storeCells_at, Nat.add_zero, ← ho]; exact e1
    have e3 := hsrc.get w ok.sat
    have e4 := hsrc.len w
    unfold Oper.wp
    have : (execOp ac.eval ⟨some d, .call ⟨.builtin .append, #[x, y], #[t, t2]⟩, ty, ps, af, none⟩).run P w = .ok (.value (.slice (some ⟨b, 0, none⟩) (sLen + m) cap)) w' := by
      rw [show (#[x, y] : Array Operand) = [x, y].toArray from rfl, run_builtin (vals := [.slice (some ⟨b, 0, none⟩) sLen cap, xv]) fa (by simp [evArgs, hx, hy])]
      cases d2 <;> simp only [okD2, Bool.false_eq_true] at hi2 <;>
        simp [builtin, Builtin.append_, run_underlying hu, run_underlying hu2, run_sizeOf hs, e4, e3, hroom, add_none, e2]
    rw [this, Oper.upon_value]
    exact hK _ _ (hk.run _ _ (fa.put _ hd) ok')⟩
/-- One element of a row is cleared. -/
theorem l_clear1 {e s b o c : Nat} {T : TypeId} {fz : Nat × Nat} {z : Value} {zs pre cs post : List Value} (hu : P.underlying t = some (.slice e)) (hz : zrOf P e = some z) (hzs : z.cells = zs.toArray) (h1 : ones zs = true) (hx : lkO E x = some (.slice (some ⟨b, o, none⟩) 1 c))
    (hl : zs.length = cs.length) (ho : pre.length = o) (hf : Free fz (o + zs.length)) (hk : WL P n ops Q rest E h (blkF b T (pre ++ zs ++ post) fz :: H)) :
    WL P n ops Q (⟨none, .call ⟨.builtin .clear, #[x], #[t]⟩, ty, ps, af, none⟩ :: rest) E h (blkF b T (pre ++ cs ++ post) fz :: H) :=
  ⟨fun ac w fa ok => wpList_plain rfl fun KK hK => by
    subst ho
    obtain ⟨w', e1, ok'⟩ := Ok.storesF (P := P) zs pre cs post w hl (by simpa [ones] using h1) hf ok
    have e2 : (storeCells ⟨b, pre.length, none⟩ zs).run P w = .ok () w' := by rw [storeCells_at, Nat.add_zero]; exact e1
    have hzc : (Builtin.zeroCells z.cells 1).toList = zs := by
      rw [hzs]
      simp only [Builtin.zeroCells, Nat.one_mul, List.size_toArray, Array.toList_map, Array.toList_range]
      refine List.ext_getElem? fun i => ?_
      rw [List.getElem?_map]
      by_cases hi : i < zs.length
      · rw [List.getElem?_range hi]
        simp [hi, Nat.mod_eq_of_lt hi]
      · rw [List.getElem?_eq_none (by simpa using hi), List.getElem?_eq_none (by omega)]; rfl
    unfold Oper.wp
    have : (execOp ac.eval ⟨none, .call ⟨.builtin .clear, #[x], #[t]⟩, ty, ps, af, none⟩).run P w = .ok (.value (.tuple #[])) w' := by
      rw [show (#[x] : Array Operand) = [x].toArray from rfl, run_builtin (vals := [.slice (some ⟨b, pre.length, none⟩) 1 c]) fa (by simp [evArgs, hx])]
      simp [builtin, Builtin.clear_, run_underlying hu, run_zero hz, hzc, e2]
    rw [this, Oper.upon_value]
    exact hK _ _ (hk.run _ _ fa ok')⟩
end
end Go.K
