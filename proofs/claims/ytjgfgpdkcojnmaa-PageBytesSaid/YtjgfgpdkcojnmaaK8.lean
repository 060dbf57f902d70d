/-
  K8: slices of structs in the base; stores into rows of bytes. Generic over the program. Conditions: none.
-/
import Derived.Test.YtjgfgpdkcojnmaaK7
namespace Go.K
set_option linter.unusedVariables false
set_option linter.unusedSimpArgs false

section
variable {P : Program} {n : Nat} {Q : Exit → Act → World → Prop} {E : Env} {h h' h0 : Base} {H K R : List Asrt} {ops : Array Oper} {rest : List Oper}
variable {op : Op} {t t' ty : TypeId} {ps : String} {af : Array Edge} {d i : Nat} {v : Value} {x y : Operand} {dst : Option Nat} {g : Option (Nat × Bool)} {σ : Sch}

/-- A value that reads as these rows of sz cells, in the base. -/
def SL (h : Base) (sz : Nat) (v : Value) (es : List (List Value)) : Prop :=
  (∃ ao c, v = .slice ao 0 c ∧ es = []) ∨ ∃ b o c, v = .slice (some ⟨b, o, none⟩) es.length c ∧ es.length ≤ c ∧ ∀ j (hj : j < es.length), es[j].length = sz ∧ Cels h [] b (o + j * sz) es[j]
theorem SL.le {sz : Nat} {es : List (List Value)} (hb : SL h sz v es) (hle : h.le h') : SL h' sz v es := hb.imp id fun ⟨b, o, c, e, hc, hcs⟩ => ⟨b, o, c, e, hc, fun j hj => ⟨(hcs j hj).1, Cels.le hle (hcs j hj).2⟩⟩
theorem SL.len {sz : Nat} {es : List (List Value)} (hb : SL h sz v es) : ∃ ao c, v = .slice ao es.length c := by
  rcases hb with ⟨ao, c, rfl, rfl⟩ | ⟨b, o, c, rfl, _⟩
  · exact ⟨_, _, rfl⟩
  · exact ⟨_, _, rfl⟩
theorem p_lenL {e : TypeId} {sz : Nat} {es : List (List Value)} (hb : SL h sz v es) (hu : P.underlying t = some (.slice e)) (hx : lkO E x = some v) : Pu P n E h K ⟨dst, .call ⟨.builtin .len, #[x], #[t]⟩, ty, ps, af, g⟩ (.int .i64 es.length) := by
  obtain ⟨ao, c, rfl⟩ := hb.len
  exact p_lenS hu hx
theorem p_indexL {e : TypeId} {sz : Nat} {es : List (List Value)} {k : IntKind} {m : Int} {cs : List Value} (hb : SL h sz v es) (hu : P.underlying t = some (.slice e)) (hs : szOf P e = some sz) (hx : lkO E x = some v) (hy : lkO E y = some (.int k m))
    (h0 : 0 ≤ m) (hc : es[m.toNat]? = some cs) : ∃ v', Pu P n E h K ⟨dst, .indexAddr t x y, ty, ps, af, g⟩ v' ∧ ∃ b o, v' = .pointer (some ⟨b, o, none⟩) ∧ Cels h [] b o cs := by
  obtain ⟨hlt, he⟩ := List.getElem?_eq_some_iff.1 hc
  rcases hb with ⟨_, _, rfl, rfl⟩ | ⟨b, o, ca, rfl, _, hcs⟩
  · simp at hlt
  · have := (hcs m.toNat hlt).2
    rw [he] at this
    exact ⟨_, p_indexAddr hu hs hx hy h0 (by omega) rfl, b, _, rfl, this⟩

theorem p_loadM {bl o m : Nat} {vs : List Value} (hg : aggOf P t = some true) (hx : lkO E x = some (.pointer (some ⟨bl, o, none⟩))) (hc : Cels h K bl o vs) (hz : szOf P t = some m) (hm : vs.length = m) : Pu P n E h K ⟨dst, .load t x, ty, ps, af, g⟩ (.agg vs.toArray) := by
  subst hm
  exact p_loadN hg hz hx hc
theorem suf_ins (i : Nat) {A : Asrt} (hi : H[i]? = some A) (hs : Suf K H) : Suf (A :: K) H := ⟨fun B hB => by
  rcases List.mem_cons.1 hB with rfl | hB
  · exact List.mem_of_getElem? hi
  · exact hs.sub B hB⟩
theorem idx01 (j : Nat) : 0 + ((j : Nat) : Int).toNat * 1 = j := by simp

/-- A store of a byte into a row of bytes. -/
theorem l_storeB {b j : Nat} {T : TypeId} {bs : List UInt8} {sp : List Value} {fz : Nat × Nat} {k : Int} {c : UInt8} (hs : szOf P t = some 1) (hx : lkO E x = some (.pointer (some ⟨b, j, none⟩))) (hy : lkO E y = some (.int .u8 k)) (hk : k = c.toNat) (hj : j < bs.length)
    (hf : Free fz bs.length) (hn : WL P n ops Q rest E h (blkF b T ((bs.set j c).map u8 ++ sp) fz :: R)) : WL P n ops Q (⟨none, .store t x y, ty, ps, af, none⟩ :: rest) E h (blkF b T (bs.map u8 ++ sp) fz :: R) := by
  subst hk
  refine l_store1 (v := u8 c) hs hx hy rfl (by simp [Nat.blt_eq]; omega) (hf j hj) ?_ hn
  rw [List.set_append_left _ _ (by simpa using hj), List.map_set]

theorem AT.sel {q : Exit} (is : List Nat) {A H' : List Asrt} (e : pick is H = some (A, H')) (hx : AT P n Q q E h H') : AT P n Q q E h H := AT.perm (pick_perm e) (AT.drops hx)
theorem WC.drops {c : Code} {A : List Asrt} (hx : WC P n c Q E h H) : WC P n c Q E h (A ++ H) := ⟨fun a w fa ok => hx.run a w fa ok.drops⟩
theorem WC.sel {c : Code} (is : List Nat) {A H' : List Asrt} (e : pick is H = some (A, H')) (hx : WC P n c Q E h H') : WC P n c Q E h H := WC.perm (pick_perm e) (WC.drops hx)
theorem wn8 (x : Nat) : IntKind.u8.wrap (x : Int) = ((x % 256 : Nat) : Int) := by rw [wu8]; omega
theorem wn16 (x : Nat) : IntKind.u16.wrap (x : Int) = ((x % 65536 : Nat) : Int) := by rw [wu16]; omega
theorem wn32 (x : Nat) : IntKind.u32.wrap (x : Int) = ((x % 4294967296 : Nat) : Int) := by rw [wu32]; omega
theorem lebs_mod : ∀ (m x : Nat), lebs (x % 256 ^ m) m = lebs x m
  | 0, x => rfl
  | m + 1, x => by
    rw [lebs, lebs, Nat.pow_succ, Nat.mod_mul_left_mod]
    congr 1
    rw [Nat.mul_comm, Nat.mod_mul_right_div_self, lebs_mod m]
end
end Go.K
