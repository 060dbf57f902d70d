/-
  Texts joined: Hc Fr Hj Hf. Conditions: each theorem's own.
-/
import Derived.Test.YtijbhgiigddjdaaGreatPC20
import Derived.Test.YtijbhgiigddjdaaGreatPC8
import Derived.Test.YtijbhgiigddjdaaGreatPC9
import Derived.Test.YtijbhgiigddjdaaGreatPC26
import Derived.Test.YtijbhgiigddjdaaGreatPC22
set_option linter.unusedVariables false
set_option linter.unusedSimpArgs false
set_option maxRecDepth 10000
set_option maxHeartbeats 16000000
section
namespace Go.Proofs.YtijbhgiigddjdaaGreat.Rc
open Go.K Pg Ca

def Wr (P : Nat) (l : List UInt8) (u : Value) (h0 h' : Base) (H' : List Asrt) : Prop := h' = h0 ∧ u = unit ∧ ∃ a c, H' = [wA (some (P, some (a, c, l)))]
abbrev wp (P : Nat) : Value := .pointer (some ⟨P, 0, none⟩)
theorem cuF_len : ∀ (f x : Nat), (cuF f x).length ≤ f + 1
 | 0, x => by simp [cuF]
 | f + 1, x => by
  unfold cuF
  split
  ·simp
  ·have := cuF_len f (x / 128)
   rw [List.length_cons]; omega
theorem cu_len (x : Nat) : (cu x).length ≤ 10 := cuF_len 9 x
theorem V_Uint (h : Base) (P : Nat) (a : Option Nat) (c : Nat) (l : List UInt8) (x : Nat) (hx : x < 18446744073709551616) (hl : l.length ≤ 1000000000) :
  Tr Tryz.prog 137 [wp P, .int .u64 x] h [wA (some (P, some (a, c, l)))] (fun u h' H' => Wr P (l ++ cu x) u h h' H') := fun F w ok =>
 Calls.mono (W_Uint h (some (P, some (a, c, l))) x hx (by simp only [wb, big]; omega) F w ok) fun e w' ⟨u, he, h1, H1, hle, ⟨q1, q2, s', q3, q4⟩, ok1⟩ => by
  obtain ⟨a', c', rfl⟩ := wadd_some q3
  exact ⟨u, he, h1, H1, hle, ⟨q2.symm, q1, a', c', q4⟩, ok1⟩
theorem V_U8 (h : Base) (P : Nat) (a : Option Nat) (c : Nat) (l : List UInt8) (x : Nat) (hx : x < 256) (hl : l.length ≤ 1000000000) :
  Tr Tryz.prog 126 [wp P, .int .u8 x] h [wA (some (P, some (a, c, l)))] (fun u h' H' => Wr P (l ++ lebs x 1) u h h' H') := fun F w ok =>
 Calls.mono (W_U8 h (some (P, some (a, c, l))) x hx (by simp only [wb, big]; omega) F w ok) fun e w' ⟨u, he, h1, H1, hle, ⟨q1, q2, s', q3, q4⟩, ok1⟩ => by
  obtain ⟨a', c', rfl⟩ := wadd_some q3
  exact ⟨u, he, h1, H1, hle, ⟨q2.symm, q1, a', c', q4⟩, ok1⟩
theorem V_Raw (h : Base) (P : Nat) (a : Option Nat) (c : Nat) (l : List UInt8) (v : Value) (b : List UInt8) (hv : BV h v b) (hl : l.length ≤ 1000000000) (hb : b.length ≤ 1000000000) :
  Tr Tryz.prog 102 [wp P, v] h [wA (some (P, some (a, c, l)))] (fun u h' H' => Wr P (l ++ b) u h h' H') := fun F w ok =>
 Calls.mono (W_RawB h (some (P, some (a, c, l))) v b hv (by simp only [wb, big]; omega) F w ok) fun e w' ⟨u, he, h1, H1, hle, ⟨q1, q2, s', q3, q4⟩, ok1⟩ => by
  obtain ⟨a', c', rfl⟩ := wadd_some q3
  exact ⟨u, he, h1, H1, hle, ⟨q2.symm, q1, a', c', q4⟩, ok1⟩
theorem V_Text (h : Base) (P : Nat) (a : Option Nat) (c : Nat) (l b : List UInt8) (hl : l.length ≤ 1000000000) (hb : b.length ≤ 1000000000) :
  Tr Tryz.prog 138 [wp P, .string ⟨b.toArray⟩] h [wA (some (P, some (a, c, l)))] (fun u h' H' => Wr P (l ++ (cu b.length ++ b)) u h h' H') := fun F w ok =>
 Calls.mono (W_Text h (some (P, some (a, c, l))) ⟨b.toArray⟩ (by simp only [wb, big]; show _ + b.length + 16 ≤ _; omega) F w ok) fun e w' ⟨u, he, h1, H1, hle, ⟨q1, q2, s', q3, q4⟩, ok1⟩ => by
  obtain ⟨a', c', rfl⟩ := wadd_some q3
  exact ⟨u, he, h1, H1, hle, ⟨q2.symm, q1, a', c', q4⟩, ok1⟩
theorem flat_at {α β : Type} {l : List α} {j : Nat} {x : α} (f : α → List β) (h : l[j]? = some x) : (l.take (j + 1)).flatMap f = (l.take j).flatMap f ++ f x := by
 rw [List.take_add_one, h, List.flatMap_append]
 simp
theorem nums_len : ∀ (xs : List Nat), (xs.flatMap cu).length ≤ 10 * xs.length
 | [] => Nat.le_refl _
 | x :: xs => by
  have h1 := nums_len xs
  have h2 := cu_len x
  rw [List.flatMap_cons, List.length_append, List.length_cons]; omega
theorem Numbers (h : Base) (P : Nat) (a : Option Nat) (c : Nat) (l : List UInt8) (v : Value) (xs : List Nat) (hv : U64s h v xs) (hx : ∀ x ∈ xs, x < 18446744073709551616) (hn : xs.length ≤ 10) (hl : l.length ≤ 900000000) :
  Tr Tryz.prog 136 [wp P, v] h [wA (some (P, some (a, c, l)))] (fun u h' H' => Wr P (l ++ xs.flatMap cu) u h h' H') := by
 unfold U64s at hv
 obtain ⟨ao, ca, rfl⟩ := hv.len
 rw [List.length_map] at hv ⊢
 refine K.en Tryz.func136 fun F => ?_
 simp only [Go.K.cna]
 (repeat' first | refine X.rq ?_ | refine X.rc ?_ ?_ <;> intro hc <;> try omega)
 refine K.c_loop (σ := Nat × Option Nat × Nat) (fun s => [(0, wp P), (6, .slice ao xs.length ca), (7, .int .i64 xs.length), (8, .int .i64 s.1)]) (fun _ => h) (fun s => wA (some (P, some (s.2.1, s.2.2, l ++ (xs.take s.1).flatMap cu))) :: F)
  (fun s => s.1 ≤ xs.length) (fun s => xs.length - s.1) (0, a, c) (Nat.zero_le _) (by repeat (first | exact K.Sub.nil _ | refine K.Sub.cons rfl ?_)) rfl (by simp) ?_
 rintro ⟨j, a1, c1⟩ hj KL hKL
 dsimp only at hj ⊢
 by_cases hjl : j < xs.length
 ·have hx1 : xs[j]? = some xs[j] := List.getElem?_eq_getElem hjl
  have hxl := hx _ (List.getElem_mem hjl)
  generalize xs[j] = x at hx1 hxl
  have hc0 : (xs.map fun x => [n64 x])[((j : Nat) : Int).toNat]? = some [n64 x] := by rw [Int.toNat_natCast, List.getElem?_map, hx1]; rfl
  have hlen := nums_len (xs.take j)
  have hlt : (xs.take j).length ≤ 10 := by rw [List.length_take]; omega
  (repeat' first | refine X.rq ?_ | refine X.rc ?_ ?_ <;> intro hc <;> try omega)
  refine K.s_pureE (K.p_indexL hv (Fx.und rfl) (Fx.sz rfl) rfl rfl (by omega) hc0) rfl ?_
  rintro v2 ⟨b, o, rfl, hcel⟩
  refine K.s_pure (K.p_load (Fx.agg rfl) rfl (K.Cel.up hcel.1)) rfl ?_
  (repeat' first | refine X.rq ?_ | refine X.rc ?_ ?_ <;> intro hc <;> try omega)
  refine K.l_call (Fx.cal rfl) rfl (V_Uint h P a1 c1 (l ++ (xs.take j).flatMap cu) x hxl (by rw [List.length_append]; omega)) (K.pp [0] rfl) rfl ?_
  rintro u h' H' - ⟨e, rfl, a2, c2, rfl⟩
  obtain rfl := e.symm
  simp only [Go.K.nmz]
  (repeat' first | refine X.rq ?_ | refine X.rc ?_ ?_ <;> intro hc <;> try omega)
  refine K.a_round hKL (j + 1, a2, c2) (by dsimp only; omega) (by repeat (first | exact K.Sub.nil _ | refine K.Sub.cons rfl ?_)) rfl ?_ (by dsimp only; omega)
  dsimp only
  rw [flat_at cu hx1, List.append_assoc]
 ·obtain rfl : j = xs.length := by omega
  rw [List.take_length]
  (repeat' first | refine X.rq ?_ | refine X.rc ?_ ?_ <;> intro hc <;> try omega)
  refine K.dl rfl (H' := [wA (some (P, some (a1, c1, l ++ xs.flatMap cu)))]) rfl ⟨rfl, rfl, a1, c1, rfl⟩
theorem NumsB (h : Base) (P : Nat) (a : Option Nat) (c : Nat) (l : List UInt8) (B T : Nat) (xs : List Nat) (hx : ∀ x ∈ xs, x < 18446744073709551616) (hn : xs.length ≤ 10) (hl : l.length ≤ 900000000) :
  Tr Tryz.prog 136 [wp P, .slice (some ⟨B, 0, none⟩) xs.length xs.length] h ([blk B T (xs.map n64)] ++ [wA (some (P, some (a, c, l)))]) (fun u h' H' => h' = h ∧ u = unit ∧ ∃ a c, H' = [wA (some (P, some (a, c, l ++ xs.flatMap cu)))]) :=
 K.Tr.give fun h' hle hs => fun F w ok => Calls.mono (Numbers h' P a c l _ xs (K.says_nums hs) hx hn hl F w ok) fun e w' ⟨u, he, h1, H1, hle, ⟨_, q1, q2⟩, ok1⟩ => ⟨u, he, h1, H1, hle, ⟨q1, q2⟩, ok1⟩
end Go.Proofs.YtijbhgiigddjdaaGreat.Rc
end

section
namespace Go.Proofs.YtijbhgiigddjdaaGreat.Pg
open Go.K Ra

section
variable {n : Nat} {Q : Exit → Act → World → Prop} {E : Env} {h : Base} {H R : List Asrt} {ops : Array Oper} {rest : List Oper} {t t2 ty : TypeId} {ps : String} {af : Array Edge} {d : Nat} {x y : Operand}
end
end Go.Proofs.YtijbhgiigddjdaaGreat.Pg
end

section
namespace Go.Proofs.YtijbhgiigddjdaaGreat.Rc
open Go.K Pg Ca Ra

end Go.Proofs.YtijbhgiigddjdaaGreat.Rc
end

section
namespace Go.Proofs.YtijbhgiigddjdaaGreat.Rc
open Go.K Pg Ca

theorem flat_len {α : Type} (f : α → List UInt8) (b : Nat) : ∀ (l : List α), (∀ x ∈ l, (f x).length ≤ b) → (l.flatMap f).length ≤ l.length * b
 | [], _ => by simp
 | x :: l, h => by
  have h1 := flat_len f b l fun y hy => h y (List.mem_cons_of_mem _ hy)
  have h2 := h x (List.mem_cons_self ..)
  rw [List.flatMap_cons, List.length_append, List.length_cons, Nat.add_mul, Nat.one_mul]
  omega
theorem cellN_len {x : PCell} (ho : okCell x) : (cellN x).length ≤ 200 := by
 have h1 := cu_len x.data.length
 have h2 := cu_len x.killer
 unfold cellN
 rw [List.length_append]
 split
 ·have := ho.1 (by assumption)
  rw [List.length_append]; omega
 ·rw [List.length_nil]; omega
theorem pagN_len {p : Pag} (hm : mayQ p = true) : (pagN p).length ≤ 12030 := by
 have h1 := cu_len p.next
 have h2 := cu_len p.cells.length
 have h3 := flat_len cellN 200 p.cells fun x hx => cellN_len (may_ok hm x hx)
 have h4 := ((mayQ_iff p).1 hm).2.1
 have h5 : p.cells.length * 200 ≤ 60 * 200 := Nat.mul_le_mul_right _ h4
 unfold pagN cellsN
 simp only [List.length_append, lebs_length]
 omega
theorem PImage (h : Base) (P : Nat) (a : Option Nat) (c : Nat) (l : List UInt8) (cs : List Value) (p : Pag) (hx : PagC h cs p) (hm : mayQ p = true) (hl : l.length ≤ 800000000) :
  Tr Tryz.prog 139 [wp P, .agg cs.toArray] h [wA (some (P, some (a, c, l)))] (fun u h' H' => Wr P (l ++ pagN p) u h h' H') := by
 obtain ⟨hw, cv, rfl, es, hv, hel, hr⟩ := hx
 obtain ⟨ao, ca, rfl⟩ := hv.len
 rw [hel] at hv ⊢
 obtain ⟨⟨hk1, hk3⟩, h60, _, _⟩ := (mayQ_iff p).1 hm
 have hok := may_ok hm
 obtain ⟨k, hk⟩ : ∃ k : Nat, p.kind = k := ⟨p.kind.toNat, by omega⟩
 have hkn : p.kind.toNat = k := by omega
 have hwn := hw.next
 have hpn : pagN p = lebs k 1 ++ (cu p.next ++ cu p.cells.length) ++ cellsN p.cells := by
  unfold pagN; rw [hkn]; simp only [List.append_assoc]
 rw [hpn]
 refine K.en Tryz.func139 fun F => ?_
 simp only [Go.K.cna]
 (repeat' first | refine X.rq ?_ | refine X.rc ?_ ?_ <;> intro hc <;> try omega)
 refine K.l_box rfl rfl rfl (fun B3 => ?_)
 (repeat' first | refine X.rq ?_ | refine X.rc ?_ ?_ <;> intro hc <;> try omega)
 rw [hk]
 refine K.l_call (Fx.cal rfl) rfl (V_U8 h P a c l k (by omega) (by omega)) (K.pp [1] rfl) rfl ?_
 rintro u h' H' - ⟨e, rfl, a1, c1, rfl⟩
 obtain rfl := e.symm
 simp only [Go.K.nmz]
 (repeat' first | refine X.rq ?_ | refine X.rc ?_ ?_ <;> intro hc <;> try omega)
 refine K.l_buildSlice (Fx.und rfl) (Fx.sz rfl) rfl (Fx.zr rfl) rfl rfl rfl (cs := [.int .u64 p.next, .int .u64 p.cells.length]) rfl rfl (fun B => ?_)
 refine K.l_call (Fx.cal rfl) rfl (NumsB h P a1 c1 (l ++ lebs k 1) B 37 [p.next, p.cells.length] (by simp; omega) (Nat.le_of_ble_eq_true rfl) (by simp [lebs_length]; omega)) (K.pp [0, 0] rfl) rfl ?_
 rintro u h' H' - ⟨e, rfl, a2, c2, rfl⟩
 obtain rfl := e.symm
 simp only [Go.K.nmz]
 (repeat' first | refine X.rq ?_ | refine X.rc ?_ ?_ <;> intro hc <;> try omega)
 have hl2 : (l ++ lebs k 1 ++ [p.next, p.cells.length].flatMap cu).length ≤ 800000021 := by
  have h1 := cu_len p.next
  have h2 := cu_len p.cells.length
  simp [lebs_length]; omega
 rw [show l ++ (lebs k 1 ++ (cu p.next ++ cu p.cells.length) ++ cellsN p.cells) = (l ++ lebs k 1 ++ [p.next, p.cells.length].flatMap cu) ++ cellsN p.cells by simp [List.append_assoc]]
 generalize l ++ lebs k 1 ++ [p.next, p.cells.length].flatMap cu = l2 at hl2 ⊢
 refine K.c_loop (σ := Nat × Option Nat × Nat) (fun s => [(0, wp P), (3, .pointer (some ⟨B3, 0, none⟩)), (22, .slice ao p.cells.length ca), (23, .int .i64 p.cells.length), (24, .int .i64 s.1)]) (fun _ => h)
  (fun s => wA (some (P, some (s.2.1, s.2.2, l2 ++ cellsN (p.cells.take s.1)))) :: blk B3 41 (cP p (.slice ao p.cells.length ca)) :: F) (fun s => s.1 ≤ p.cells.length) (fun s => p.cells.length - s.1) (0, a2, c2) (Nat.zero_le _) (by repeat (first | exact K.Sub.nil _ | refine K.Sub.cons rfl ?_)) rfl (by simp [cellsN]) ?_
 rintro ⟨j, a3, c3⟩ hj KL hKL
 dsimp only at hj ⊢
 by_cases hjl : j < p.cells.length
 ·have hc1 : es[j]? = some (es[j]'(by omega)) := List.getElem?_eq_getElem (by omega)
  have hc0 : es[((j : Nat) : Int).toNat]? = some (es[j]'(by omega)) := by rw [Int.toNat_natCast]; exact hc1
  have he1 : p.cells[j]? = some p.cells[j] := List.getElem?_eq_getElem hjl
  have hox := hok _ (List.getElem_mem hjl)
  have hl3 : (cellsN (p.cells.take j)).length ≤ 12000 := by
   have h1 := flat_len cellN 200 (p.cells.take j) fun x hx => cellN_len (hok x (List.mem_of_mem_take hx))
   have h2 : (p.cells.take j).length * 200 ≤ 60 * 200 := Nat.mul_le_mul_right _ (by rw [List.length_take]; omega)
   unfold cellsN; omega
  have hat : cellsN (p.cells.take (j + 1)) = cellsN (p.cells.take j) ++ cellN p.cells[j] := flat_at cellN he1
  generalize es[j]'(by omega) = cc at hc0 hc1
  generalize p.cells[j] = x at he1 hox hat
  obtain ⟨hkl, hdl, ao3, ca3, rfl, hbv⟩ := hr j cc x hc1 he1
  have hxd : x.data.length ≤ 180 := by
   cases hu : x.used with
   | true => have := hox.1 hu; omega
   | false => have := hox.2 hu; omega
  have hl4 : (l2 ++ cellsN (p.cells.take j)).length ≤ 800012021 := by rw [List.length_append]; omega
  generalize hq : l2 ++ cellsN (p.cells.take j) = l4 at hl4 ⊢
  have hcn : cellN x = cu x.data.length ++ if x.used = true then cu x.killer ++ x.data else [] := rfl
  have h1 := cu_len x.data.length
  have h2 := cu_len x.killer
  (repeat' first | refine X.rq ?_ | refine X.rc ?_ ?_ <;> intro hc <;> try omega)
  refine K.s_pureE (K.p_indexL hv (Fx.und rfl) (Fx.sz rfl) rfl rfl (by omega) hc0) rfl ?_
  rintro v2 ⟨b, o, rfl, hcel⟩
  refine K.s_pure (K.p_loadM (Fx.agg rfl) rfl (Cels.up hcel) (Fx.sz rfl) rfl) rfl ?_
  refine K.l_alloc (Fx.zr rfl) rfl rfl (fun B5 => ?_)
  refine X.stw ?_
  simp only [Go.K.nmz]
  (repeat' first | refine X.rq ?_ | refine X.rc ?_ ?_ <;> intro hc <;> try omega)
  refine K.l_call (Fx.cal rfl) rfl (V_Uint h P a3 c3 l4 x.data.length (by omega) (by omega)) (K.pp [1] rfl) rfl ?_
  rintro u h' H' - ⟨e, rfl, a4, c4, rfl⟩
  obtain rfl := e.symm
  simp only [Go.K.nmz]
  cases hu : x.used with
  | true =>
   (repeat' first | refine X.rq ?_ | refine X.rc ?_ ?_ <;> intro hc <;> try omega)
   refine K.l_call (Fx.cal rfl) rfl (V_Uint h P a4 c4 (l4 ++ cu x.data.length) x.killer (by omega) (by rw [List.length_append]; omega)) (K.pp [0] rfl) rfl ?_
   rintro u h' H' - ⟨e, rfl, a5, c5, rfl⟩
   obtain rfl := e.symm
   simp only [Go.K.nmz]
   (repeat' first | refine X.rq ?_ | refine X.rc ?_ ?_ <;> intro hc <;> try omega)
   refine K.l_call (Fx.cal rfl) rfl (V_Raw h P a5 c5 (l4 ++ cu x.data.length ++ cu x.killer) _ x.data hbv (by simp only [List.length_append]; omega) (by omega)) (K.pp [0] rfl) rfl ?_
   rintro u h' H' - ⟨e, rfl, a6, c6, rfl⟩
   obtain rfl := e.symm
   simp only [Go.K.nmz]
   (repeat' first | refine X.rq ?_ | refine X.rc ?_ ?_ <;> intro hc <;> try omega)
   refine K.AT.perm (K.pp [1] rfl) ?_
   simp only [Go.K.nmz]
   refine K.AT.drop ?_
   refine K.a_round hKL (j + 1, a6, c6) (by dsimp only; omega) (by repeat (first | exact K.Sub.nil _ | refine K.Sub.cons rfl ?_)) rfl ?_ (by dsimp only; omega)
   dsimp only
   rw [hat, hcn, if_pos hu, ← hq]
   simp only [List.append_assoc]
  | false =>
   (repeat' first | refine X.rq ?_ | refine X.rc ?_ ?_ <;> intro hc <;> try omega)
   refine K.AT.perm (K.pp [1] rfl) ?_
   simp only [Go.K.nmz]
   refine K.AT.drop ?_
   refine K.a_round hKL (j + 1, a4, c4) (by dsimp only; omega) (by repeat (first | exact K.Sub.nil _ | refine K.Sub.cons rfl ?_)) rfl ?_ (by dsimp only; omega)
   dsimp only
   rw [hat, hcn, if_neg (by rw [hu]; decide), ← hq, List.append_nil, List.append_assoc]
 ·obtain rfl : j = p.cells.length := by omega
  rw [List.take_length]
  (repeat' first | refine X.rq ?_ | refine X.rc ?_ ?_ <;> intro hc <;> try omega)
  refine K.AT.perm (K.pp [1] rfl) ?_
  simp only [Go.K.nmz]
  refine K.AT.drop ?_
  refine K.dl rfl (H' := [wA (some (P, some (a3, c3, l2 ++ cellsN p.cells)))]) rfl ⟨rfl, rfl, a3, c3, rfl⟩
end Go.Proofs.YtijbhgiigddjdaaGreat.Rc
end
