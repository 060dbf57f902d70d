/-
 KNa: the texts KM KQ KV in one (maps, parts of rows, thawing). Conditions: each theorem's own.
-/
import Derived.Test.YtmcdaegaopfihaaGreatY12
import Derived.Maps.RangeRun
/-! KM: maps with whole numbers for keys, owned by the call: made, looked up, written, deleted from, ranged over. Generic over the program. Conditions: none. -/
namespace Go.K
set_option linter.unusedSimpArgs false
def objA (b : Nat) (o : Obj) : Asrt where
 ids := [b]
 holds w := w.heap[b]? = some o
 live w h x hx := by
  simp at hx; subst hx
  rcases Nat.lt_or_ge x w.heap.size with h' | h'
  ·exact h'
  ·rw [Array.getElem?_eq_none h'] at h; cases h
 loc w w' hb h := by rw [hb b (by simp)]; exact h
abbrev ME := Int × Value × Nat
def entE (kk : IntKind) (e : ME) : MapEntry := ⟨.int kk e.1, e.2.1, e.2.2⟩
def mapO (kk : IntKind) (l : List ME) (clock : Nat) : Obj := .map (l.map (entE kk)).toArray clock
def iterO (b since : Nat) (seen : List Nat) (last : Nat) : Obj := .mapIter (some b) since seen.toArray last
abbrev mapA (b : Nat) (kk : IntKind) (l : List ME) (clock : Nat) : Asrt := objA b (mapO kk l clock)
abbrev iterA (r b since : Nat) (seen : List Nat) (last : Nat) : Asrt := objA r (iterO b since seen last)
structure MapOk (l : List ME) (clock : Nat) : Prop where
 keys : (l.map (·.1)).Nodup
 born : (l.map (·.2.2)).Nodup
 clock : ∀ e ∈ l, e.2.2 < clock
def look (l : List ME) (a : Int) : Option Value := (l.find? fun e => e.1 == a).map (·.2.1)
def putM (l : List ME) (clock : Nat) (a : Int) (v : Value) : List ME := if (look l a).isSome then l.map (fun e => if e.1 = a then (a, v, e.2.2) else e) else l ++ [(a, v, clock)]
def putC (l : List ME) (clock : Nat) (a : Int) : Nat := if (look l a).isSome then clock else clock + 1
def delM (l : List ME) (a : Int) : List ME := l.filter fun e => !(e.1 == a)
section
variable {P : Program}
end
section
variable {P : Program} {n : NN} {Q : Exit → Act → World → Prop} {E : Env} {h h' h0 : Base} {H K R F : List Asrt} {ops : Array Oper} {rest : List Oper}
variable {op : Op} {t t' kt et ty : TypeId} {ps : String} {af : Array Edge} {d i b : Nat} {v z : Value} {x y : Operand} {dst : Option Nat} {g : Option (Nat × Bool)} {kk : IntKind} {m : List ME} {clock : Nat} {a : Int}
theorem set_perm {H : List Asrt} {i : Nat} {A A' : Asrt} (hi : H[i]? = some A) : (A' :: H.eraseIdx i).Perm (H.set i A') := by
 have hlt : i < H.length := (List.getElem?_eq_some_iff.1 hi).1
 have := at_perm (l := H.set i A') (i := i) (A := A') (by rw [List.getElem?_set_self hlt])
 rw [List.eraseIdx_set_eq] at this
 exact this.symm
end
end Go.K

/-! KQ: a part of a row of the base; numbers of lists. Generic over the program. Conditions: none. -/
namespace Go.K
set_option linter.unusedVariables false
section
variable {P : Program} {n : NN} {E : Env} {h : Base} {K : List Asrt}
variable {t ty : TypeId} {ps : String} {af : Array Edge} {v : Value} {x y : Operand} {dst : Option Nat} {g : Option (Nat × Bool)}
section
variable {Q : Exit → Act → World → Prop} {H R : List Asrt} {ops : Array Oper} {rest : List Oper} {d : Nat}
theorem Ok.openBuf {T s b m cap : Nat} {cs : List Value} {w : World} (ok : Ok h (bufA T s (some b) m cap cs :: R) w) : ∃ sp fz, cs.length = m * s ∧ (cs ++ sp).length = cap * s ∧ m ≤ cap ∧ cap ≤ maxLen ∧ Free fz (cap * s) ∧ Ok h (blkF b T (cs ++ sp) fz :: R) w := by
 obtain ⟨sp, fz, g1, g2, g3, g4, g5, g6⟩ := ok.own_head
 refine ⟨sp, fz, g2, g3, g4, g5, g6, ok.os, ok.tape, ok.output, ⟨ok.sat.imm, fun A hA => ?_⟩, ok.nd, ok.dj⟩
 rcases List.mem_cons.1 hA with rfl | hA'
 ·exact g1
 ·exact ok.sat.own A (List.mem_cons_of_mem _ hA')
theorem WL.openBuf {L : List Oper} {T s b m cap : Nat} {cs : List Value} (hk : ∀ sp fz, cs.length = m * s → (cs ++ sp).length = cap * s → m ≤ cap → cap ≤ maxLen → Free fz (cap * s) → WL P n ops Q L E h (blkF b T (cs ++ sp) fz :: R)) : WL P n ops Q L E h (bufA T s (some b) m cap cs :: R) :=
 ⟨fun a w fa ok => by obtain ⟨sp, fz, g2, g3, g4, g5, g6, ok2⟩ := Ok.openBuf ok; exact (hk sp fz g2 g3 g4 g5 g6).run _ w fa ok2⟩
theorem Ok.someBuf {T s m cap j : Nat} {a : Option Nat} {cs : List Value} {w : World} (hj : H[j]? = some (bufA T s a m cap cs)) (hm : 0 < m) (ok : Ok h H w) : ∃ b, a = some b := by
 have := ok.sat.own _ (List.mem_of_getElem? hj)
 cases a with
 | none => obtain ⟨e, _, _⟩ := this; omega
 | some b => exact ⟨b, rfl⟩
theorem WC.someBuf {c : Code} {T s m cap : Nat} {a : Option Nat} {cs : List Value} (j : Nat) (hj : H[j]? = some (bufA T s a m cap cs)) (hm : 0 < m) (hk : ∀ b, a = some b → WC P n c Q E h H) : WC P n c Q E h H :=
 ⟨fun ac w fa ok => by obtain ⟨b, e⟩ := Ok.someBuf hj hm ok; exact (hk b e).run _ w fa ok⟩
theorem cel_rowZ {T s b m cap i q : Nat} {es : List (List Value)} {c : List Value} {u : Value} (j : Nat) (hj : K[j]? = some (bufA T s (some b) m cap es.flatten)) (hz : ∀ e ∈ es, e.length = s) (hi : es[i]? = some c) (hq : c[q]? = some u) : Cel h K b (i * s + q) u := ⟨fun w hs => by
 obtain ⟨sp, fz, g1, _⟩ := hs.own _ (List.mem_of_getElem? hj)
 have := flat_get (sp := sp) hz hi hq
 simp [World.cell?, g1, this]⟩
theorem cels_rowZ {T s b m cap i : Nat} {es : List (List Value)} {c : List Value} (j : Nat) (hj : K[j]? = some (bufA T s (some b) m cap es.flatten)) (hz : ∀ e ∈ es, e.length = s) (hi : es[i]? = some c) : Cels h K b (i * s) c :=
 cels_of fun q u hq => cel_rowZ j hj hz hi hq
theorem WL.freezeRowN {L : List Oper} {T sz m : Nat} {a : Option Nat} {cap : Nat} {es : List (List Value)} (hm : m = es.length) (hz : ∀ e ∈ es, e.length = sz) (hk : ∀ h', h.le h' → SL h' sz (bufV a m cap) es → WL P n ops Q L E h' H) : WL P n ops Q L E h (bufA T sz a m cap es.flatten :: H) := by
 subst hm
 exact WL.freezeRow hz fun h' le hs _ => hk h' le hs
theorem l_storePart {b s m cap i : Nat} {T : TypeId} {es : List (List Value)} {c1 c2 c3 us : List Value} (j : Nat) (hj : H[j]? = some (bufA T s (some b) m cap es.flatten)) (hs : szOf P t = some us.length) (hx : lkO E x = some (.pointer (some ⟨b, i * s + c1.length, none⟩))) (hy : lkO E y = some (.agg us.toArray)) (hv : ones us = true)
  (hz : ∀ e ∈ es, e.length = s) (hi : es[i]? = some (c1 ++ c2 ++ c3)) (hu : us.length = c2.length) (hk : WL P n ops Q rest E h (H.set j (bufA T s (some b) m cap (es.set i (c1 ++ us ++ c3)).flatten))) :
  WL P n ops Q (⟨none, .store t x y, ty, ps, af, none⟩ :: rest) E h H := by
 have e1 := at_perm hj
 have hlt : j < H.length := by
  rcases Nat.lt_or_ge j H.length with h' | h'
  ·exact h'
  ·rw [List.getElem?_eq_none h'] at hj; cases hj
 have e2 : (bufA T s (some b) m cap (es.set i (c1 ++ us ++ c3)).flatten :: H.eraseIdx j).Perm (H.set j (bufA T s (some b) m cap (es.set i (c1 ++ us ++ c3)).flatten)) := by
  have := at_perm (l := H.set j (bufA T s (some b) m cap (es.set i (c1 ++ us ++ c3)).flatten)) (i := j) (A := bufA T s (some b) m cap (es.set i (c1 ++ us ++ c3)).flatten) (by rw [List.getElem?_set_self hlt])
  rw [List.eraseIdx_set_eq] at this
  exact this.symm
 obtain ⟨hil, hie⟩ := List.getElem?_eq_some_iff.1 hi
 obtain ⟨p1, p2⟩ := flat_parts es i hil hz
 have hz' : ∀ e ∈ es.set i (c1 ++ us ++ c3), e.length = s := fun e he => by
  rcases List.mem_or_eq_of_mem_set he with h' | h'
  ·exact hz e h'
  ·have := hz _ (List.getElem_mem hil)
   rw [hie] at this
   rw [h', ← this]; simp; omega
 obtain ⟨q1, q2⟩ := flat_parts (es.set i (c1 ++ us ++ c3)) i (by simpa using hil) hz'
 rw [List.take_set_of_le (Nat.le_refl _), List.drop_set_of_lt (by omega), List.getElem_set_self] at q1
 rw [hie] at p1
 have hlen : (es.set i (c1 ++ us ++ c3)).flatten.length = es.flatten.length := by rw [flatten_len _ hz', flatten_len _ hz, List.length_set]
 refine WL.perm e1 (WL.openBuf fun sp fz g2 g3 g4 g5 g6 => ?_)
 have hb : i * s + c1.length + us.length ≤ cap * s := by
  have h1 : es.flatten.length ≤ cap * s := by rw [← g3, List.length_append]; omega
  have h2 := congrArg List.length p1
  simp only [List.length_append] at h2
  omega
 have e3 : es.flatten ++ sp = ((es.take i).flatten ++ c1) ++ c2 ++ (c3 ++ (es.drop (i + 1)).flatten ++ sp) := by rw [p1]; simp only [List.append_assoc]
 have e4 : (es.set i (c1 ++ us ++ c3)).flatten ++ sp = ((es.take i).flatten ++ c1) ++ us ++ (c3 ++ (es.drop (i + 1)).flatten ++ sp) := by rw [q1]; simp only [List.append_assoc]
 rw [e3]
 refine l_storeN hs hx hy hv hu (by rw [List.length_append, p2]) (fun o ho => g6 o (by omega)) ?_
 rw [← e4]
 exact WL.shut (by rw [hlen]; exact g2) (by rw [List.length_append, hlen, ← List.length_append]; exact g3) g4 g5 g6 (WL.perm e2 hk)
end
end
theorem SL.at {h : Base} {sz : Nat} {ao : Option Addr} {la ca : Nat} {es : List (List Value)} (hb : SL h sz (.slice ao la ca) es) {j : Nat} {c : List Value} (hc : es[j]? = some c) : ∃ b o, ao = some ⟨b, o, none⟩ ∧ Cels h [] b (o + j * sz) c := by
 obtain ⟨hlt, he⟩ := List.getElem?_eq_some_iff.1 hc
 rcases hb with ⟨_, _, _, rfl⟩ | ⟨b, o, c', e, _, hcs⟩
 ·simp at hlt
 ·injection e with e1 _ _
  refine ⟨b, o, e1, ?_⟩
  have := (hcs j hlt).2
  rw [he] at this
  exact this
end Go.K

/-! KV: memory that came up behind a base: frozen, and taken back to be written. Generic over the program. Conditions: none. -/
namespace Go.K
def Fsh (h0 h : Base) (sz : Nat) (v : Value) : Prop := ∀ ao n c, v = .slice ao n c → 0 < n → ∃ b arr T fz, ao = some ⟨b, 0, none⟩ ∧ h0.mem b = none ∧ h.mem b = some (.cells arr T fz) ∧ ∀ i, i < n * sz → (decide (fz.1 ≤ i) && decide (i < fz.2)) = false
theorem Fsh.le {h0 h0' h h' : Base} {sz : Nat} {v : Value} (hf : Fsh h0 h sz v) (h1 : h0'.le h0) (h2 : h.le h') : Fsh h0' h' sz v := fun ao n c e hn => by
 obtain ⟨b, arr, T, fz, e1, e2, e3, e4⟩ := hf ao n c e hn
 refine ⟨b, arr, T, fz, e1, ?_, h2.mem _ _ e3, e4⟩
 cases hm : h0'.mem b with
 | none => rfl
 | some o => rw [h1.mem _ _ hm] at e2; cases e2
theorem Fsh.nil {h0 h : Base} {sz c : Nat} {ao : Option Addr} : Fsh h0 h sz (.slice ao 0 c) := fun _ n _ e hn => by
 injection e with _ e2 _
 omega
section
variable {P : Program} {n : NN} {Q : Exit → Act → World → Prop} {E : Env} {h h' h0 : Base} {H K R F : List Asrt} {ops : Array Oper} {rest : List Oper}
variable {op : Op} {t t' ty : TypeId} {ps : String} {af : Array Edge} {d i : Nat} {v : Value} {x y : Operand} {dst : Option Nat} {g : Option (Nat × Bool)}
theorem Ok.freezeBufF {T : TypeId} {a : Option Nat} {cap : Nat} {l : List UInt8} {w : World} (ok : Ok h (bufA T 1 a l.length cap (l.map u8) :: H) w) : ∃ h', h.le h' ∧ BV h' (bufV a l.length cap) l ∧ Fsh h h' 1 (bufV a l.length cap) ∧ Ok h' H w := by
 have hown := ok.own_head
 cases a with
 | none =>
  obtain ⟨e1, e2, e3⟩ := hown
  have : l = [] := by simpa using e3
  subst this; subst e2
  exact ⟨h, Base.le.refl h, BV.nil, Fsh.nil, ok.drop⟩
 | some b =>
  obtain ⟨sp, fz, g1, g2, g3, g4, g5, g6⟩ := hown
  have ok2 : Ok h (blkF b T (l.map u8 ++ sp) fz :: H) w := by
   refine ⟨ok.os, ok.tape, ok.output, ⟨ok.sat.imm, fun A hA => ?_⟩, ok.nd, ok.dj⟩
   rcases List.mem_cons.1 hA with rfl | hA'
   ·exact g1
   ·exact ok.sat.own A (List.mem_cons_of_mem _ hA')
  obtain ⟨f1, f2, f3⟩ := ok2.freeze
  refine ⟨_, f1, .inr ⟨b, 0, cap, rfl, g4, cels_of fun j u hj => ?_⟩, fun ao n c e hn => ?_, f3⟩
  ·rw [Nat.zero_add]
   refine cel_mem f2 ?_
   have hlt : j < (l.map u8).length := (List.getElem?_eq_some_iff.1 hj).1
   rw [List.getElem?_append_left hlt]; exact hj
  ·cases e
   exact ⟨b, _, T, fz, rfl, ok2.dj b (by simp [idsOf, blkF]), f2, fun i hi => g6 i (Nat.lt_of_lt_of_le hi (Nat.mul_le_mul_right _ g4))⟩
theorem WL.freezeBufF {L : List Oper} {T : TypeId} {a : Option Nat} {cap : Nat} {l : List UInt8} (hk : ∀ h', h.le h' → BV h' (bufV a l.length cap) l → Fsh h h' 1 (bufV a l.length cap) → WL P n ops Q L E h' H) : WL P n ops Q L E h (bufA T 1 a l.length cap (l.map u8) :: H) :=
 ⟨fun a w fa ok => by obtain ⟨h', h1, h2, h3, h4⟩ := ok.freezeBufF; exact (hk h' h1 h2 h3).run _ w fa h4⟩
theorem Ok.freezeRowF {T sz : Nat} {a : Option Nat} {cap : Nat} {es : List (List Value)} {w : World} (hz : ∀ e ∈ es, e.length = sz) (ok : Ok h (bufA T sz a es.length cap es.flatten :: H) w) : ∃ h', h.le h' ∧ SL h' sz (bufV a es.length cap) es ∧ es.length ≤ cap ∧ Fsh h h' sz (bufV a es.length cap) ∧ Ok h' H w := by
 have hown := ok.own_head
 cases a with
 | none =>
  obtain ⟨e1, e2, e3⟩ := hown
  have : es = [] := List.eq_nil_of_length_eq_zero e1
  subst this; subst e2
  exact ⟨h, Base.le.refl h, .inl ⟨_, _, rfl, rfl⟩, Nat.le_refl _, Fsh.nil, ok.drop⟩
 | some b =>
  obtain ⟨sp, fz, g1, g2, g3, g4, g5, g6⟩ := hown
  have ok2 : Ok h (blkF b T (es.flatten ++ sp) fz :: H) w := by
   refine ⟨ok.os, ok.tape, ok.output, ⟨ok.sat.imm, fun A hA => ?_⟩, ok.nd, ok.dj⟩
   rcases List.mem_cons.1 hA with rfl | hA'
   ·exact g1
   ·exact ok.sat.own A (List.mem_cons_of_mem _ hA')
  obtain ⟨f1, f2, f3⟩ := ok2.freeze
  refine ⟨_, f1, .inr ⟨b, 0, cap, rfl, g4, fun j hj => ⟨hz _ (List.getElem_mem hj), ?_⟩⟩, g4, fun ao n c e hn => ?_, f3⟩
  ·refine cels_of fun i u hu => cel_mem f2 ?_
   have hfl := flat_get (sp := sp) hz (List.getElem?_eq_getElem hj) hu
   rw [show 0 + j * sz + i = j * sz + i by omega]
   exact hfl
  ·cases e
   exact ⟨b, _, T, fz, rfl, ok2.dj b (by simp [idsOf, blkF]), f2, fun i hi => g6 i (Nat.lt_of_lt_of_le hi (Nat.mul_le_mul_right _ g4))⟩
theorem AT.freezeRowF {q : Exit} {T sz : Nat} {a : Option Nat} {cap : Nat} {es : List (List Value)} (hz : ∀ e ∈ es, e.length = sz) (hk : ∀ h', h.le h' → SL h' sz (bufV a es.length cap) es → es.length ≤ cap → Fsh h h' sz (bufV a es.length cap) → AT P n Q q E h' H) : AT P n Q q E h (bufA T sz a es.length cap es.flatten :: H) :=
 ⟨fun a w fa ok => by obtain ⟨h', h1, h2, h3, h4, h5⟩ := ok.freezeRowF hz; exact (hk h' h1 h2 h3 h4).run _ w fa h5⟩

/-! Memory that came up behind a base, all of it, taken back. -/
def isCells : Option Obj → Bool
 | some (.cells _ _ _) => true
 | _ => false
def spA (h' : Base) (L : List Nat) (g : Nat → List Value) : Asrt where
 ids := L
 holds w := ∀ b ∈ L, ∃ arr T fz, h'.mem b = some (.cells arr T fz) ∧ w.heap[b]? = some (.cells (g b).toArray T fz)
 live w hw b hb := by
  obtain ⟨arr, T, fz, _, h2⟩ := hw b hb
  exact heap_lt h2
 loc w w' hb hw b hL := by
  obtain ⟨arr, T, fz, h1, h2⟩ := hw b hL
  exact ⟨arr, T, fz, h1, by rw [hb b hL]; exact h2⟩
def cmp1 (u v : Value) : Prop := u = v ∨ ∃ k a b, u = .int k a ∧ v = .int k b
def Cmp (h' : Base) (L : List Nat) (g : Nat → List Value) : Prop := ∀ b ∈ L, ∀ arr T fz, h'.mem b = some (.cells arr T fz) → (g b).length = arr.size ∧ ∀ (i : Nat) u, arr[i]? = some u → ∃ u', (g b)[i]? = some u' ∧ cmp1 u u'
def upd (gg : Nat → List Value) (b o : Nat) (u : Value) : Nat → List Value := fun x => if x = b then (gg b).set o u else gg x
end
end Go.K
