/-
  Texts joined: Hc Fr Hj Hf. Conditions: each theorem's own.
-/
import Derived.Test.YtijbhgiigddjdaaGreatPB19
import Derived.Test.YtijbhgiigddjdaaGreatPB9
import Derived.Test.YtijbhgiigddjdaaGreatPB10
import Derived.Test.YtijbhgiigddjdaaGreatPB26
import Derived.Test.YtijbhgiigddjdaaGreatPB21
set_option linter.unusedVariables false
set_option linter.unusedSimpArgs false
section
namespace Go.Proofs.YtijbhgiigddjdaaGreat.Rc
open Go Go.K Go.Proofs Go.Proofs.YtijbhgiigddjdaaGreat Go.Proofs.YtijbhgiigddjdaaGreat.Pg Go.Proofs.YtijbhgiigddjdaaGreat.Ca
set_option maxRecDepth 10000

def Wr (P : Nat) (l : List UInt8) (u : Value) (h0 h' : Base) (H' : List Asrt) : Prop := h' = h0 ∧ u = unit ∧ ∃ a c, H' = [wA (some (P, some (a, c, l)))]
abbrev wp (P : Nat) : Value := .pointer (some ⟨P, 0, none⟩)
theorem cuF_len : ∀ (f x : Nat), (cuF f x).length ≤ f + 1
 | 0, x => by simp [cuF]
 | f + 1, x => by
  unfold cuF
  split
  ·simp
  ·have := cuF_len f (x / 128)
   rw [List.length_cons]; omega
theorem cu_len (x : Nat) : (cu x).length ≤ 10 := cuF_len 9 x
theorem V_Uint (h : Base) (P : Nat) (a : Option Nat) (c : Nat) (l : List UInt8) (x : Nat) (hx : x < 18446744073709551616) (hl : l.length ≤ 1000000000) :
  Tr Tryz.prog 137 [wp P, .int .u64 x] h [wA (some (P, some (a, c, l)))] (fun u h' H' => Wr P (l ++ cu x) u h h' H') := fun F w ok =>
 Calls.mono (W_Uint h (some (P, some (a, c, l))) x hx (by simp only [wb, big]; omega) F w ok) fun e w' ⟨u, he, h1, H1, hle, ⟨q1, q2, s', q3, q4⟩, ok1⟩ => by
  obtain ⟨a', c', rfl⟩ := wadd_some q3
  exact ⟨u, he, h1, H1, hle, ⟨q2.symm, q1, a', c', q4⟩, ok1⟩
theorem V_U8 (h : Base) (P : Nat) (a : Option Nat) (c : Nat) (l : List UInt8) (x : Nat) (hx : x < 256) (hl : l.length ≤ 1000000000) :
  Tr Tryz.prog 126 [wp P, .int .u8 x] h [wA (some (P, some (a, c, l)))] (fun u h' H' => Wr P (l ++ lebs x 1) u h h' H') := fun F w ok =>
 Calls.mono (W_U8 h (some (P, some (a, c, l))) x hx (by simp only [wb, big]; omega) F w ok) fun e w' ⟨u, he, h1, H1, hle, ⟨q1, q2, s', q3, q4⟩, ok1⟩ => by
  obtain ⟨a', c', rfl⟩ := wadd_some q3
  exact ⟨u, he, h1, H1, hle, ⟨q2.symm, q1, a', c', q4⟩, ok1⟩
theorem V_Raw (h : Base) (P : Nat) (a : Option Nat) (c : Nat) (l : List UInt8) (v : Value) (b : List UInt8) (hv : BV h v b) (hl : l.length ≤ 1000000000) (hb : b.length ≤ 1000000000) :
  Tr Tryz.prog 102 [wp P, v] h [wA (some (P, some (a, c, l)))] (fun u h' H' => Wr P (l ++ b) u h h' H') := fun F w ok =>
 Calls.mono (W_RawB h (some (P, some (a, c, l))) v b hv (by simp only [wb, big]; omega) F w ok) fun e w' ⟨u, he, h1, H1, hle, ⟨q1, q2, s', q3, q4⟩, ok1⟩ => by
  obtain ⟨a', c', rfl⟩ := wadd_some q3
  exact ⟨u, he, h1, H1, hle, ⟨q2.symm, q1, a', c', q4⟩, ok1⟩
theorem V_Text (h : Base) (P : Nat) (a : Option Nat) (c : Nat) (l b : List UInt8) (hl : l.length ≤ 1000000000) (hb : b.length ≤ 1000000000) :
  Tr Tryz.prog 138 [wp P, .string ⟨b.toArray⟩] h [wA (some (P, some (a, c, l)))] (fun u h' H' => Wr P (l ++ (cu b.length ++ b)) u h h' H') := fun F w ok =>
 Calls.mono (W_Text h (some (P, some (a, c, l))) ⟨b.toArray⟩ (by simp only [wb, big]; show _ + b.length + 16 ≤ _; omega) F w ok) fun e w' ⟨u, he, h1, H1, hle, ⟨q1, q2, s', q3, q4⟩, ok1⟩ => by
  obtain ⟨a', c', rfl⟩ := wadd_some q3
  exact ⟨u, he, h1, H1, hle, ⟨q2.symm, q1, a', c', q4⟩, ok1⟩
theorem flat_at {α β : Type} {l : List α} {j : Nat} {x : α} (f : α → List β) (h : l[j]? = some x) : (l.take (j + 1)).flatMap f = (l.take j).flatMap f ++ f x := by
 rw [List.take_add_one, h, List.flatMap_append]
 simp
theorem nums_len : ∀ (xs : List Nat), (xs.flatMap cu).length ≤ 10 * xs.length
 | [] => Nat.le_refl _
 | x :: xs => by
  have h1 := nums_len xs
  have h2 := cu_len x
  rw [List.flatMap_cons, List.length_append, List.length_cons]; omega
set_option maxHeartbeats 1000000 in
theorem Numbers (h : Base) (P : Nat) (a : Option Nat) (c : Nat) (l : List UInt8) (v : Value) (xs : List Nat) (hv : U64s h v xs) (hx : ∀ x ∈ xs, x < 18446744073709551616) (hn : xs.length ≤ 10) (hl : l.length ≤ 900000000) :
  Tr Tryz.prog 136 [wp P, v] h [wA (some (P, some (a, c, l)))] (fun u h' H' => Wr P (l ++ xs.flatMap cu) u h h' H') := by
 unfold U64s at hv
 obtain ⟨ao, ca, rfl⟩ := hv.len
 rw [List.length_map] at hv ⊢
 refine K.enter Tryz.func136 rfl (Nat.le_of_ble_eq_true rfl) (fun F => ?_)
 simp only [List.cons_append, List.nil_append]
 (repeat' first | refine X.rq ?_ | refine X.rc ?_ ?_ <;> intro hc <;> try omega)
 refine K.c_loop (σ := Nat × Option Nat × Nat) (fun s => [(0, wp P), (6, .slice ao xs.length ca), (7, .int .i64 xs.length), (8, .int .i64 s.1)]) (fun _ => h) (fun s => wA (some (P, some (s.2.1, s.2.2, l ++ (xs.take s.1).flatMap cu))) :: F)
  (fun s => s.1 ≤ xs.length) (fun s => xs.length - s.1) (0, a, c) (Nat.zero_le _) (by repeat (first | exact K.Sub.nil _ | refine K.Sub.cons rfl ?_)) rfl (by simp) ?_
 rintro ⟨j, a1, c1⟩ hj KL hKL
 dsimp only at hj ⊢
 by_cases hjl : j < xs.length
 ·have hx1 : xs[j]? = some xs[j] := List.getElem?_eq_getElem hjl
  have hxl := hx _ (List.getElem_mem hjl)
  generalize xs[j] = x at hx1 hxl
  have hc0 : (xs.map fun x => [n64 x])[((j : Nat) : Int).toNat]? = some [n64 x] := by rw [Int.toNat_natCast, List.getElem?_map, hx1]; rfl
  have hlen := nums_len (xs.take j)
  have hlt : (xs.take j).length ≤ 10 := by rw [List.length_take]; omega
  (repeat' first | refine X.rq ?_ | refine X.rc ?_ ?_ <;> intro hc <;> try omega)
  refine K.s_pureE (K.p_indexL hv (Fx.und rfl) (Fx.sz rfl) rfl rfl (by omega) hc0) rfl ?_
  rintro v2 ⟨b, o, rfl, hcel⟩
  refine K.s_pure (K.p_load (Fx.agg rfl) rfl (K.Cel.up hcel.1)) rfl ?_
  (repeat' first | refine X.rq ?_ | refine X.rc ?_ ?_ <;> intro hc <;> try omega)
  refine K.l_call (Fx.cal rfl) rfl (V_Uint h P a1 c1 (l ++ (xs.take j).flatMap cu) x hxl (by rw [List.length_append]; omega)) (K.pp [0] rfl) rfl ?_
  rintro u h' H' - ⟨e, rfl, a2, c2, rfl⟩
  obtain rfl := e.symm
  simp only [Go.K.nmz]
  (repeat' first | refine X.rq ?_ | refine X.rc ?_ ?_ <;> intro hc <;> try omega)
  refine K.a_round hKL (j + 1, a2, c2) (by dsimp only; omega) (by repeat (first | exact K.Sub.nil _ | refine K.Sub.cons rfl ?_)) rfl ?_ (by dsimp only; omega)
  dsimp only
  rw [flat_at cu hx1, List.append_assoc]
 ·obtain rfl : j = xs.length := by omega
  rw [List.take_length]
  (repeat' first | refine X.rq ?_ | refine X.rc ?_ ?_ <;> intro hc <;> try omega)
  refine K.dl rfl (H' := [wA (some (P, some (a1, c1, l ++ xs.flatMap cu)))]) rfl ⟨rfl, rfl, a1, c1, rfl⟩
theorem NumsB (h : Base) (P : Nat) (a : Option Nat) (c : Nat) (l : List UInt8) (B T : Nat) (xs : List Nat) (hx : ∀ x ∈ xs, x < 18446744073709551616) (hn : xs.length ≤ 10) (hl : l.length ≤ 900000000) :
  Tr Tryz.prog 136 [wp P, .slice (some ⟨B, 0, none⟩) xs.length xs.length] h ([blk B T (xs.map n64)] ++ [wA (some (P, some (a, c, l)))]) (fun u h' H' => h' = h ∧ u = unit ∧ ∃ a c, H' = [wA (some (P, some (a, c, l ++ xs.flatMap cu)))]) :=
 K.Tr.give fun h' hle hs => fun F w ok => Calls.mono (Numbers h' P a c l _ xs (K.says_nums hs) hx hn hl F w ok) fun e w' ⟨u, he, h1, H1, hle, ⟨_, q1, q2⟩, ok1⟩ => ⟨u, he, h1, H1, hle, ⟨q1, q2⟩, ok1⟩
end Go.Proofs.YtijbhgiigddjdaaGreat.Rc
end

section
namespace Go.Proofs.YtijbhgiigddjdaaGreat.Pg
open Go Go.K Go.Proofs Go.Proofs.YtijbhgiigddjdaaGreat Go.Proofs.YtijbhgiigddjdaaGreat.Ra
set_option maxRecDepth 10000

theorem two_u8 {k n : Nat} (hk : k < 256) (hn : n < 256) : [Value.int .u8 (k : Int), Value.int .u8 (n : Int)] = (lebs k 1 ++ lebs n 1).map u8 := by
 simp [lebs, u8, UInt8.toNat_ofNat', Nat.mod_eq_of_lt hk, Nat.mod_eq_of_lt hn]
theorem u8_ones (l : List UInt8) : ∀ u ∈ l.map u8, oneCell u = true := fun u hu => by
 obtain ⟨c, _, rfl⟩ := List.mem_map.1 hu
 rfl
section
variable {n : Nat} {Q : Exit → Act → World → Prop} {E : Env} {h : Base} {H R : List Asrt} {ops : Array Oper} {rest : List Oper} {t t2 ty : TypeId} {ps : String} {af : Array Edge} {d : Nat} {x y : Operand}
theorem l_appBB {a a2 : Option Nat} {cap cap2 : Nat} {l l2 : List UInt8} (hu : Tryz.prog.underlying t = some (.slice 5)) (hu2 : Tryz.prog.underlying t2 = some (.slice 5)) (hx : lkO E x = some (bufV a l.length cap)) (hy : lkO E y = some (bufV a2 l2.length cap2))
  (hl : l.length + l2.length ≤ 1000000000) (hd : Nat.blt d n = true) (hk : ∀ a' cap', WL Tryz.prog n ops Q rest ((d, bufV a' (l ++ l2).length cap') :: E) h (bufA 5 1 a' (l ++ l2).length cap' ((l ++ l2).map u8) :: R)) :
  WL Tryz.prog n ops Q (⟨some d, .call ⟨.builtin .append, #[x, y], #[t, t2]⟩, ty, ps, af, none⟩ :: rest) E h (bufA 5 1 a2 l2.length cap2 (l2.map u8) :: bufA 5 1 a l.length cap (l.map u8) :: R) := by
 refine K.l_append_at (e := 5) 1 rfl hu hu2 rfl (Fx.sz rfl) (Fx.zr rfl) rfl (Fx.byt rfl) hx hy (K.src_buf 0 rfl (u8_ones l2) (by simp)) (by omega) (by omega) hd (fun a' cap' => ?_)
 simp only [Go.K.nmz]
 refine K.WL.drop ?_
 have := hk a' cap'
 rw [List.length_append, List.map_append] at this
 exact this
theorem l_appBV {a : Option Nat} {cap : Nat} {l l2 : List UInt8} {v : Value} (hb : BV h v l2) (hu : Tryz.prog.underlying t = some (.slice 5)) (hu2 : Tryz.prog.underlying t2 = some (.slice 5)) (hx : lkO E x = some (bufV a l.length cap)) (hy : lkO E y = some v)
  (hl : l.length + l2.length ≤ 1000000000) (hd : Nat.blt d n = true) (hk : ∀ a' cap', WL Tryz.prog n ops Q rest ((d, bufV a' (l ++ l2).length cap') :: E) h (bufA 5 1 a' (l ++ l2).length cap' ((l ++ l2).map u8) :: R)) :
  WL Tryz.prog n ops Q (⟨some d, .call ⟨.builtin .append, #[x, y], #[t, t2]⟩, ty, ps, af, none⟩ :: rest) E h (bufA 5 1 a l.length cap (l.map u8) :: R) := by
 refine K.l_append_at (e := 5) 0 rfl hu hu2 rfl (Fx.sz rfl) (Fx.zr rfl) rfl (Fx.byt rfl) hx hy hb.src (by omega) (by omega) hd (fun a' cap' => ?_)
 simp only [Go.K.nmz]
 have := hk a' cap'
 rw [List.length_append, List.map_append] at this
 exact this
end
set_option maxHeartbeats 4000000 in
theorem REncode (h : Base) (cs : List Value) (p : Pag) (hx : PagC h cs p) : Tr Tryz.prog 44 [.agg cs.toArray] h [] (Gave h (encQ p).1) := by
 have hmay := RMay h _ p hx
 obtain ⟨hw, cv, rfl, es, hv, hel, hr⟩ := hx
 obtain ⟨ao, ca, rfl⟩ := hv.len
 rw [hel] at hv hmay ⊢
 refine K.enter Tryz.func44 rfl (Nat.le_of_ble_eq_true rfl) (fun F => ?_)
 (repeat' first | refine X.rq ?_ | refine X.rc ?_ ?_ <;> intro hc <;> try omega)
 refine K.l_box rfl rfl rfl (fun B1 => ?_)
 (repeat' first | refine X.rq ?_ | refine X.rc ?_ ?_ <;> intro hc <;> try omega)
 refine K.l_callV (Fx.cal rfl) rfl hmay (K.pp [] rfl) rfl rfl ?_
 simp only [List.nil_append]
 cases hm : mayQ p with
 | false =>
  rw [show encQ p = ([], 5) by rw [encQ, if_neg (by rw [hm]; decide)]]
  (repeat' first | refine X.rq ?_ | refine X.rc ?_ ?_ <;> intro hc <;> try omega)
  refine K.AT.drop ?_
  refine K.AT.nilBuf 5 1 ?_
  refine K.dl rfl (H' := [bufA 5 1 none 0 0 []]) rfl ⟨rfl, none, 0, rfl, rfl⟩
 | true =>
  rw [show encQ p = (encB p, 0) by rw [encQ, if_pos hm]]
  obtain ⟨⟨hk1, hk3⟩, h60, hcells, hz512⟩ := (mayQ_iff p).1 hm
  have hbl := bodyB_le hm
  obtain ⟨k, hk⟩ : ∃ k : Nat, p.kind = k := ⟨p.kind.toNat, by omega⟩
  have hkn : p.kind.toNat = k := by omega
  have hwl := hw.lsn
  have hwn := hw.next
  have hok := may_ok hm
  have hbody : bodyB p = lebs k 1 ++ lebs p.cells.length 1 ++ lebs p.lsn 8 ++ lebs p.next 4 ++ cellsB p.cells := by rw [bodyB, hkn]
  have hll1 : ∀ j, (cellsB (p.cells.take j)).length ≤ 1000 := fun j => by
   rw [cellsB_len fun x hx => hok x (List.mem_of_mem_take hx)]
   have h1 := sizeS_append (p.cells.take j) (p.cells.drop j)
   rw [List.take_append_drop] at h1
   unfold sizeQ at hz512
   omega
  (repeat' first | refine X.rq ?_ | refine X.rc ?_ ?_ <;> intro hc <;> try omega)
  refine X.bs (fun B16 => ?_)
  rw [hk, two_u8 (by omega) (by omega)]
  refine K.WL.bufOf (m := 2) (s := 1) (by simp [lebs_length]) (by unfold maxLen; omega) ?_
  (repeat' first | refine X.rq ?_ | refine X.rc ?_ ?_ <;> intro hc <;> try omega)
  refine K.l_call (Fx.cal rfl) rfl (Fixed h p.lsn 8 hwl (by omega)) (K.pp [] rfl) rfl ?_
  rintro u h' H' - ⟨rfl, a2, cap2, rfl, rfl⟩
  simp only [List.cons_append, List.nil_append]
  refine l_appBB (l := lebs k 1 ++ lebs p.cells.length 1) (Fx.und rfl) (Fx.und rfl) rfl rfl (by simp [lebs_length]) rfl (fun a3 cap3 => ?_)
  obtain ⟨l3, hl3⟩ : ∃ l3, l3 = lebs k 1 ++ lebs p.cells.length 1 ++ lebs p.lsn 8 := ⟨_, rfl⟩
  have hl3n : l3.length = 10 := by rw [hl3]; simp [lebs_length]
  rw [← hl3]
  rw [← hl3] at hbody
  (repeat' first | refine X.rq ?_ | refine X.rc ?_ ?_ <;> intro hc <;> try omega)
  refine K.l_call (Fx.cal rfl) rfl (Fixed h p.next 4 (by omega) (by omega)) (K.pp [] rfl) rfl ?_
  rintro u h' H' - ⟨rfl, a4, cap4, rfl, rfl⟩
  simp only [List.cons_append, List.nil_append]
  refine l_appBB (Fx.und rfl) (Fx.und rfl) rfl rfl (by rw [lebs_length]; omega) rfl (fun a5 cap5 => ?_)
  obtain ⟨l5, hl5⟩ : ∃ l5, l5 = l3 ++ lebs p.next 4 := ⟨_, rfl⟩
  have hl5n : l5.length = 14 := by rw [hl5]; simp [lebs_length, hl3n]
  rw [← hl5]
  rw [← hl5] at hbody
  (repeat' first | refine X.rq ?_ | refine X.rc ?_ ?_ <;> intro hc <;> try omega)
  clear hl3 hl5
  refine K.c_loop (σ := Nat × Option Nat × Nat × List UInt8) (fun s => [(1, .pointer (some ⟨B1, 0, none⟩)), (3, bufV s.2.1 s.2.2.2.length s.2.2.1), (4, .int .i64 s.1)]) (fun _ => h) (fun s => bufA 5 1 s.2.1 s.2.2.2.length s.2.2.1 (s.2.2.2.map u8) :: blk B1 41 (cP p (.slice ao p.cells.length ca)) :: F)
   (fun s => s.1 ≤ p.cells.length ∧ s.2.2.2 = l5 ++ cellsB (p.cells.take s.1)) (fun s => p.cells.length - s.1) (0, a5, cap5, l5) ⟨Nat.zero_le _, by simp [cellsB]⟩ (by repeat (first | exact K.Sub.nil _ | refine K.Sub.cons rfl ?_)) rfl rfl ?_
  rintro ⟨j, a6, c6, l6⟩ ⟨hj, hl6⟩ KL hKL
  dsimp only at hj hl6 ⊢
  by_cases hjl : j < p.cells.length
  ·have hc1 : es[j]? = some (es[j]'(by omega)) := List.getElem?_eq_getElem (by omega)
   have hc0 : es[((j : Nat) : Int).toNat]? = some (es[j]'(by omega)) := by rw [Int.toNat_natCast]; exact hc1
   have he1 : p.cells[j]? = some p.cells[j] := List.getElem?_eq_getElem hjl
   have hox := hok _ (List.getElem_mem hjl)
   have hat := cellsB_at he1
   have hlj := hll1 j
   generalize es[j]'(by omega) = c at hc0 hc1
   generalize p.cells[j] = x at he1 hox hat
   obtain ⟨hkl, hdl, ao3, ca3, rfl, hbv⟩ := hr j c x hc1 he1
   have hl6n : l6.length ≤ 1014 := by rw [hl6, List.length_append, hl5n]; omega
   have hxd : x.data.length ≤ 180 := by
    cases hu : x.used with
    | true => have := hox.1 hu; omega
    | false => have := hox.2 hu; omega
   (repeat' first | refine X.rq ?_ | refine X.rc ?_ ?_ <;> intro hc <;> try omega)
   refine K.s_pureE (K.p_indexL hv (Fx.und rfl) (Fx.sz rfl) rfl rfl (by omega) hc0) rfl ?_
   rintro v2 ⟨b, o, rfl, hcel⟩
   refine K.s_pure (K.p_loadM (Fx.agg rfl) rfl (Cels.up hcel) (Fx.sz rfl) rfl) rfl ?_
   refine K.l_alloc (Fx.zr rfl) rfl rfl (fun B5 => ?_)
   refine X.stw ?_
   simp only [Go.K.nmz]
   (repeat' first | refine X.rq ?_ | refine X.rc ?_ ?_ <;> intro hc <;> try omega)
   refine K.l_call (Fx.cal rfl) rfl (Fixed h x.data.length 2 (by omega) (by omega)) (K.pp [] rfl) rfl ?_
   rintro u h' H' - ⟨rfl, a7, cap7, rfl, rfl⟩
   simp only [List.cons_append, List.nil_append]
   refine K.WL.perm (K.pp [0, 1, 0] rfl) ?_
   simp only [Go.K.nmz]
   refine l_appBB (Fx.und rfl) (Fx.und rfl) rfl rfl (by rw [lebs_length]; omega) rfl (fun a8 cap8 => ?_)
   obtain ⟨l8, hl8⟩ : ∃ l8, l8 = l6 ++ lebs x.data.length 2 := ⟨_, rfl⟩
   have hl8n : l8.length ≤ 1016 := by rw [hl8, List.length_append, lebs_length]; omega
   rw [← hl8]
   cases hu : x.used with
   | true =>
    (repeat' first | refine X.rq ?_ | refine X.rc ?_ ?_ <;> intro hc <;> try omega)
    refine K.l_call (Fx.cal rfl) rfl (Fixed h x.killer 4 (by omega) (by omega)) (K.pp [] rfl) rfl ?_
    rintro u h' H' - ⟨rfl, a9, cap9, rfl, rfl⟩
    simp only [List.cons_append, List.nil_append]
    refine l_appBB (Fx.und rfl) (Fx.und rfl) rfl rfl (by rw [lebs_length]; omega) rfl (fun a10 cap10 => ?_)
    obtain ⟨l9, hl9⟩ : ∃ l9, l9 = l8 ++ lebs x.killer 4 := ⟨_, rfl⟩
    have hl9n : l9.length ≤ 1020 := by rw [hl9, List.length_append, lebs_length]; omega
    rw [← hl9]
    (repeat' first | refine X.rq ?_ | refine X.rc ?_ ?_ <;> intro hc <;> try omega)
    refine l_appBV hbv (Fx.und rfl) (Fx.und rfl) rfl rfl (by omega) rfl (fun a11 cap11 => ?_)
    (repeat' first | refine X.rq ?_ | refine X.rc ?_ ?_ <;> intro hc <;> try omega)
    refine K.AT.sel [1] rfl ?_
    refine K.a_round hKL (j + 1, a11, cap11, l9 ++ x.data) ⟨by dsimp only; omega, ?_⟩ (by repeat (first | exact K.Sub.nil _ | refine K.Sub.cons rfl ?_)) rfl rfl (by dsimp only; omega)
    dsimp only
    rw [hl9, hl8, hl6, hat, byC, if_pos hu]
    simp only [List.append_assoc]
   | false =>
    (repeat' first | refine X.rq ?_ | refine X.rc ?_ ?_ <;> intro hc <;> try omega)
    refine K.AT.sel [1] rfl ?_
    refine K.a_round hKL (j + 1, a8, cap8, l8) ⟨by dsimp only; omega, ?_⟩ (by repeat (first | exact K.Sub.nil _ | refine K.Sub.cons rfl ?_)) rfl rfl (by dsimp only; omega)
    dsimp only
    rw [hl8, hl6, hat, byC, if_neg (by rw [hu]; decide), List.append_nil]
    simp only [List.append_assoc]
  ·have hl6b : l6 = bodyB p := by rw [hl6, hbody, show j = p.cells.length by omega, List.take_length]
   clear hl6 hbody hKL hll1
   (repeat' (first | refine X.rq ?_ | (refine X.rg ?_ ?_ <;> intro hc <;> first | (exfalso; omega) | skip)))
   refine K.c_condF (by show some (Value.bool (decide _)) = some (Value.bool false); rw [decide_eq_false (by omega)]) ?_
   (repeat' (first | refine X.rq ?_ | (refine X.rg ?_ ?_ <;> intro hc <;> first | (exfalso; omega) | skip)))
   refine K.c_loop (σ := Nat × Option Nat × Nat) (fun s => [(1, .pointer (some ⟨B1, 0, none⟩)), (3, bufV s.2.1 (l6 ++ List.replicate s.1 0).length s.2.2)]) (fun _ => h) (fun s => bufA 5 1 s.2.1 (l6 ++ List.replicate s.1 0).length s.2.2 ((l6 ++ List.replicate s.1 0).map u8) :: blk B1 41 (cP p (.slice ao p.cells.length ca)) :: F)
    (fun s => s.1 ≤ 508 - l6.length) (fun s => 508 - s.1) (0, a6, c6) (Nat.zero_le _) (by rw [show l6 ++ List.replicate 0 (0 : UInt8) = l6 by simp]; exact (by repeat (first | exact K.Sub.nil _ | refine K.Sub.cons rfl ?_))) rfl (by dsimp only; rw [show l6 ++ List.replicate 0 (0 : UInt8) = l6 by simp]) ?_
   rintro ⟨m, a7, c7⟩ hm7 KM hKM
   dsimp only at hm7 ⊢
   rw [← hl6b] at hbl
   have hln : (l6 ++ List.replicate m (0 : UInt8)).length = l6.length + m := by simp
   by_cases hlt : m < 508 - l6.length
   ·have hsucc : l6 ++ List.replicate m (0 : UInt8) ++ [0] = l6 ++ List.replicate (m + 1) 0 := by rw [List.append_assoc, List.replicate_succ']
    obtain ⟨l7, hl7⟩ : ∃ l7, l7 = l6 ++ List.replicate m (0 : UInt8) := ⟨_, rfl⟩
    rw [← hl7] at hln hsucc ⊢
    (repeat' first | refine X.rq ?_ | refine X.rc ?_ ?_ <;> intro hc <;> try omega)
    refine X.bs (fun B9 => ?_)
    rw [show [Value.int .u8 0] = ([(0 : UInt8)].map u8) from rfl]
    refine K.WL.bufOf (m := 1) (s := 1) rfl (by unfold maxLen; omega) ?_
    refine l_appBB (l2 := [0]) (Fx.und rfl) (Fx.und rfl) rfl rfl (by rw [List.length_singleton]; omega) rfl (fun a8 cap8 => ?_)
    rw [hsucc]
    (repeat' first | refine X.rq ?_ | refine X.rc ?_ ?_ <;> intro hc <;> try omega)
    refine K.a_round hKM (m + 1, a8, cap8) (by dsimp only; omega) (by repeat (first | exact K.Sub.nil _ | refine K.Sub.cons rfl ?_)) rfl rfl (by dsimp only; omega)
   ·have hpad : l6 ++ List.replicate m (0 : UInt8) = padB p := by rw [padB, ← hl6b, show m = 508 - l6.length by omega]
    have hpl := padB_len hm
    have hsum := sumQ_lt (s := 0) (by decide) (padB p)
    have henc : encB p = lebs (sumQ 0 (padB p)) 4 ++ padB p := rfl
    rw [hpad]
    generalize padB p = l9 at hpl hsum henc ⊢
    clear hKM hpad
    (repeat' first | refine X.rq ?_ | refine X.rc ?_ ?_ <;> intro hc <;> try omega)
    refine K.l_callV (Fx.cal rfl) rfl (K.TrV.borrow (h := h) (A := [bufA 5 1 a7 l9.length c7 (l9.map u8)]) (R := []) fun h' hle hs => RSumOf h' _ l9 (K.says_bv hs) (by omega)) (K.pp [0] rfl) rfl rfl ?_
    simp only [Go.K.nmz]
    (repeat' first | refine X.rq ?_ | refine X.rc ?_ ?_ <;> intro hc <;> try omega)
    refine K.l_call (Fx.cal rfl) rfl (Fixed h (sumQ 0 l9) 4 (by omega) (by omega)) (K.pp [] rfl) rfl ?_
    rintro u h' H' - ⟨rfl, a10, cap10, rfl, rfl⟩
    simp only [List.cons_append, List.nil_append]
    (repeat' first | refine X.rq ?_ | refine X.rc ?_ ?_ <;> intro hc <;> try omega)
    refine K.WL.perm (K.pp [1, 0] rfl) ?_
    simp only [Go.K.nmz]
    refine l_appBB (Fx.und rfl) (Fx.und rfl) rfl rfl (by rw [lebs_length]; omega) rfl (fun a11 cap11 => ?_)
    rw [← henc]
    (repeat' first | refine X.rq ?_ | refine X.rc ?_ ?_ <;> intro hc <;> try omega)
    refine K.AT.perm (K.pp [1] rfl) ?_
    simp only [Go.K.nmz]
    refine K.AT.drop ?_
    refine K.dl rfl (H' := [bufA 5 1 a11 (encB p).length cap11 ((encB p).map u8)]) rfl ⟨rfl, a11, cap11, rfl, rfl⟩
end Go.Proofs.YtijbhgiigddjdaaGreat.Pg
end

section
namespace Go.Proofs.YtijbhgiigddjdaaGreat.Rc
open Go Go.K Go.Proofs Go.Proofs.YtijbhgiigddjdaaGreat Go.Proofs.YtijbhgiigddjdaaGreat.Pg Go.Proofs.YtijbhgiigddjdaaGreat.Ca Go.Proofs.YtijbhgiigddjdaaGreat.Ra
set_option maxRecDepth 10000

end Go.Proofs.YtijbhgiigddjdaaGreat.Rc
end

section
namespace Go.Proofs.YtijbhgiigddjdaaGreat.Rc
open Go Go.K Go.Proofs Go.Proofs.YtijbhgiigddjdaaGreat Go.Proofs.YtijbhgiigddjdaaGreat.Pg Go.Proofs.YtijbhgiigddjdaaGreat.Ca
set_option maxRecDepth 10000

theorem flat_len {α : Type} (f : α → List UInt8) (b : Nat) : ∀ (l : List α), (∀ x ∈ l, (f x).length ≤ b) → (l.flatMap f).length ≤ l.length * b
 | [], _ => by simp
 | x :: l, h => by
  have h1 := flat_len f b l fun y hy => h y (List.mem_cons_of_mem _ hy)
  have h2 := h x (List.mem_cons_self ..)
  rw [List.flatMap_cons, List.length_append, List.length_cons, Nat.add_mul, Nat.one_mul]
  omega
theorem cellN_len {x : PCell} (ho : okCell x) : (cellN x).length ≤ 200 := by
 have h1 := cu_len x.data.length
 have h2 := cu_len x.killer
 unfold cellN
 rw [List.length_append]
 split
 ·have := ho.1 (by assumption)
  rw [List.length_append]; omega
 ·rw [List.length_nil]; omega
theorem pagN_len {p : Pag} (hm : mayQ p = true) : (pagN p).length ≤ 12030 := by
 have h1 := cu_len p.next
 have h2 := cu_len p.cells.length
 have h3 := flat_len cellN 200 p.cells fun x hx => cellN_len (may_ok hm x hx)
 have h4 := ((mayQ_iff p).1 hm).2.1
 have h5 : p.cells.length * 200 ≤ 60 * 200 := Nat.mul_le_mul_right _ h4
 unfold pagN cellsN
 simp only [List.length_append, lebs_length]
 omega
set_option maxHeartbeats 2000000 in
theorem PImage (h : Base) (P : Nat) (a : Option Nat) (c : Nat) (l : List UInt8) (cs : List Value) (p : Pag) (hx : PagC h cs p) (hm : mayQ p = true) (hl : l.length ≤ 800000000) :
  Tr Tryz.prog 139 [wp P, .agg cs.toArray] h [wA (some (P, some (a, c, l)))] (fun u h' H' => Wr P (l ++ pagN p) u h h' H') := by
 obtain ⟨hw, cv, rfl, es, hv, hel, hr⟩ := hx
 obtain ⟨ao, ca, rfl⟩ := hv.len
 rw [hel] at hv ⊢
 obtain ⟨⟨hk1, hk3⟩, h60, _, _⟩ := (mayQ_iff p).1 hm
 have hok := may_ok hm
 obtain ⟨k, hk⟩ : ∃ k : Nat, p.kind = k := ⟨p.kind.toNat, by omega⟩
 have hkn : p.kind.toNat = k := by omega
 have hwn := hw.next
 have hpn : pagN p = lebs k 1 ++ (cu p.next ++ cu p.cells.length) ++ cellsN p.cells := by
  unfold pagN; rw [hkn]; simp only [List.append_assoc]
 rw [hpn]
 refine K.enter Tryz.func139 rfl (Nat.le_of_ble_eq_true rfl) (fun F => ?_)
 simp only [List.cons_append, List.nil_append]
 (repeat' first | refine X.rq ?_ | refine X.rc ?_ ?_ <;> intro hc <;> try omega)
 refine K.l_box rfl rfl rfl (fun B3 => ?_)
 (repeat' first | refine X.rq ?_ | refine X.rc ?_ ?_ <;> intro hc <;> try omega)
 rw [hk]
 refine K.l_call (Fx.cal rfl) rfl (V_U8 h P a c l k (by omega) (by omega)) (K.pp [1] rfl) rfl ?_
 rintro u h' H' - ⟨e, rfl, a1, c1, rfl⟩
 obtain rfl := e.symm
 simp only [Go.K.nmz]
 (repeat' first | refine X.rq ?_ | refine X.rc ?_ ?_ <;> intro hc <;> try omega)
 refine K.l_buildSlice (Fx.und rfl) (Fx.sz rfl) rfl (Fx.zr rfl) rfl rfl rfl (cs := [.int .u64 p.next, .int .u64 p.cells.length]) rfl rfl (fun B => ?_)
 refine K.l_call (Fx.cal rfl) rfl (NumsB h P a1 c1 (l ++ lebs k 1) B 37 [p.next, p.cells.length] (by simp; omega) (Nat.le_of_ble_eq_true rfl) (by simp [lebs_length]; omega)) (K.pp [0, 0] rfl) rfl ?_
 rintro u h' H' - ⟨e, rfl, a2, c2, rfl⟩
 obtain rfl := e.symm
 simp only [Go.K.nmz]
 (repeat' first | refine X.rq ?_ | refine X.rc ?_ ?_ <;> intro hc <;> try omega)
 have hl2 : (l ++ lebs k 1 ++ [p.next, p.cells.length].flatMap cu).length ≤ 800000021 := by
  have h1 := cu_len p.next
  have h2 := cu_len p.cells.length
  simp [lebs_length]; omega
 rw [show l ++ (lebs k 1 ++ (cu p.next ++ cu p.cells.length) ++ cellsN p.cells) = (l ++ lebs k 1 ++ [p.next, p.cells.length].flatMap cu) ++ cellsN p.cells by simp [List.append_assoc]]
 generalize l ++ lebs k 1 ++ [p.next, p.cells.length].flatMap cu = l2 at hl2 ⊢
 refine K.c_loop (σ := Nat × Option Nat × Nat) (fun s => [(0, wp P), (3, .pointer (some ⟨B3, 0, none⟩)), (22, .slice ao p.cells.length ca), (23, .int .i64 p.cells.length), (24, .int .i64 s.1)]) (fun _ => h)
  (fun s => wA (some (P, some (s.2.1, s.2.2, l2 ++ cellsN (p.cells.take s.1)))) :: blk B3 41 (cP p (.slice ao p.cells.length ca)) :: F) (fun s => s.1 ≤ p.cells.length) (fun s => p.cells.length - s.1) (0, a2, c2) (Nat.zero_le _) (by repeat (first | exact K.Sub.nil _ | refine K.Sub.cons rfl ?_)) rfl (by simp [cellsN]) ?_
 rintro ⟨j, a3, c3⟩ hj KL hKL
 dsimp only at hj ⊢
 by_cases hjl : j < p.cells.length
 ·have hc1 : es[j]? = some (es[j]'(by omega)) := List.getElem?_eq_getElem (by omega)
  have hc0 : es[((j : Nat) : Int).toNat]? = some (es[j]'(by omega)) := by rw [Int.toNat_natCast]; exact hc1
  have he1 : p.cells[j]? = some p.cells[j] := List.getElem?_eq_getElem hjl
  have hox := hok _ (List.getElem_mem hjl)
  have hl3 : (cellsN (p.cells.take j)).length ≤ 12000 := by
   have h1 := flat_len cellN 200 (p.cells.take j) fun x hx => cellN_len (hok x (List.mem_of_mem_take hx))
   have h2 : (p.cells.take j).length * 200 ≤ 60 * 200 := Nat.mul_le_mul_right _ (by rw [List.length_take]; omega)
   unfold cellsN; omega
  have hat : cellsN (p.cells.take (j + 1)) = cellsN (p.cells.take j) ++ cellN p.cells[j] := flat_at cellN he1
  generalize es[j]'(by omega) = cc at hc0 hc1
  generalize p.cells[j] = x at he1 hox hat
  obtain ⟨hkl, hdl, ao3, ca3, rfl, hbv⟩ := hr j cc x hc1 he1
  have hxd : x.data.length ≤ 180 := by
   cases hu : x.used with
   | true => have := hox.1 hu; omega
   | false => have := hox.2 hu; omega
  have hl4 : (l2 ++ cellsN (p.cells.take j)).length ≤ 800012021 := by rw [List.length_append]; omega
  generalize hq : l2 ++ cellsN (p.cells.take j) = l4 at hl4 ⊢
  have hcn : cellN x = cu x.data.length ++ if x.used = true then cu x.killer ++ x.data else [] := rfl
  have h1 := cu_len x.data.length
  have h2 := cu_len x.killer
  (repeat' first | refine X.rq ?_ | refine X.rc ?_ ?_ <;> intro hc <;> try omega)
  refine K.s_pureE (K.p_indexL hv (Fx.und rfl) (Fx.sz rfl) rfl rfl (by omega) hc0) rfl ?_
  rintro v2 ⟨b, o, rfl, hcel⟩
  refine K.s_pure (K.p_loadM (Fx.agg rfl) rfl (Cels.up hcel) (Fx.sz rfl) rfl) rfl ?_
  refine K.l_alloc (Fx.zr rfl) rfl rfl (fun B5 => ?_)
  refine X.stw ?_
  simp only [Go.K.nmz]
  (repeat' first | refine X.rq ?_ | refine X.rc ?_ ?_ <;> intro hc <;> try omega)
  refine K.l_call (Fx.cal rfl) rfl (V_Uint h P a3 c3 l4 x.data.length (by omega) (by omega)) (K.pp [1] rfl) rfl ?_
  rintro u h' H' - ⟨e, rfl, a4, c4, rfl⟩
  obtain rfl := e.symm
  simp only [Go.K.nmz]
  cases hu : x.used with
  | true =>
   (repeat' first | refine X.rq ?_ | refine X.rc ?_ ?_ <;> intro hc <;> try omega)
   refine K.l_call (Fx.cal rfl) rfl (V_Uint h P a4 c4 (l4 ++ cu x.data.length) x.killer (by omega) (by rw [List.length_append]; omega)) (K.pp [0] rfl) rfl ?_
   rintro u h' H' - ⟨e, rfl, a5, c5, rfl⟩
   obtain rfl := e.symm
   simp only [Go.K.nmz]
   (repeat' first | refine X.rq ?_ | refine X.rc ?_ ?_ <;> intro hc <;> try omega)
   refine K.l_call (Fx.cal rfl) rfl (V_Raw h P a5 c5 (l4 ++ cu x.data.length ++ cu x.killer) _ x.data hbv (by simp only [List.length_append]; omega) (by omega)) (K.pp [0] rfl) rfl ?_
   rintro u h' H' - ⟨e, rfl, a6, c6, rfl⟩
   obtain rfl := e.symm
   simp only [Go.K.nmz]
   (repeat' first | refine X.rq ?_ | refine X.rc ?_ ?_ <;> intro hc <;> try omega)
   refine K.AT.perm (K.pp [1] rfl) ?_
   simp only [Go.K.nmz]
   refine K.AT.drop ?_
   refine K.a_round hKL (j + 1, a6, c6) (by dsimp only; omega) (by repeat (first | exact K.Sub.nil _ | refine K.Sub.cons rfl ?_)) rfl ?_ (by dsimp only; omega)
   dsimp only
   rw [hat, hcn, if_pos hu, ← hq]
   simp only [List.append_assoc]
  | false =>
   (repeat' first | refine X.rq ?_ | refine X.rc ?_ ?_ <;> intro hc <;> try omega)
   refine K.AT.perm (K.pp [1] rfl) ?_
   simp only [Go.K.nmz]
   refine K.AT.drop ?_
   refine K.a_round hKL (j + 1, a4, c4) (by dsimp only; omega) (by repeat (first | exact K.Sub.nil _ | refine K.Sub.cons rfl ?_)) rfl ?_ (by dsimp only; omega)
   dsimp only
   rw [hat, hcn, if_neg (by rw [hu]; decide), ← hq, List.append_nil, List.append_assoc]
 ·obtain rfl : j = p.cells.length := by omega
  rw [List.take_length]
  (repeat' first | refine X.rq ?_ | refine X.rc ?_ ?_ <;> intro hc <;> try omega)
  refine K.AT.perm (K.pp [1] rfl) ?_
  simp only [Go.K.nmz]
  refine K.AT.drop ?_
  refine K.dl rfl (H' := [wA (some (P, some (a3, c3, l2 ++ cellsN p.cells)))]) rfl ⟨rfl, rfl, a3, c3, rfl⟩
end Go.Proofs.YtijbhgiigddjdaaGreat.Rc
end
