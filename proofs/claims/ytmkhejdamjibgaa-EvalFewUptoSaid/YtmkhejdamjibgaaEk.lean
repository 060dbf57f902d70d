/-
  The columns of an expression, gathered by a closure that calls itself. Conditions: each theorem's own.
-/
import Derived.Test.YtmkhejdamjibgaaEe
import Derived.Test.YtmkhejdamjibgaaKN

namespace Go.Proofs.Ytmkhejdamjibgaa.Rw
open Go Go.K Go.Proofs Go.Proofs.Ytmkhejdamjibgaa
set_option linter.unusedVariables false
set_option linter.unusedSimpArgs false
set_option maxRecDepth 10000

mutual
def colsQ : Ex → List Int
  | .mk op val tb nm col args => (if op = 3 then [col] else []) ++ colsL args
def colsL : List Ex → List Int
  | [] => []
  | e :: r => colsQ e ++ colsL r
end
theorem colsL_flat : ∀ l : List Ex, colsL l = l.flatMap colsQ
  | [] => rfl
  | e :: r => by rw [colsL, colsL_flat r]; rfl
def iV (n : Int) : Value := .int .i64 n
def rowI (l : List Int) : List (List Value) := l.map fun n => [iV n]
theorem rowI_len (l : List Int) : (rowI l).length = l.length := List.length_map ..
theorem rowI_one (l : List Int) : ∀ e ∈ rowI l, e.length = 1 := fun e he => by
  obtain ⟨n, _, rfl⟩ := List.mem_map.1 he
  rfl
theorem rowI_at {l : List Int} {j : Nat} {n : Int} (h : l[j]? = some n) : (rowI l)[j]? = some [iV n] := by
  rw [rowI, List.getElem?_map, h]; rfl
theorem rowI_app (l m : List Int) : (rowI (l ++ m)).flatten = (rowI l).flatten ++ (rowI m).flatten := by
  rw [rowI, List.map_append, List.flatten_append]; rfl
theorem rowI_set (l : List Int) (j : Nat) (n : Int) : (rowI l).set j [iV n] = rowI (l.set j n) := by
  rw [rowI, rowI, List.map_set]
theorem rowI_map (l : List Int) : (rowI l).flatten = l.map iV := by
  rw [rowI]
  induction l with
  | nil => rfl
  | cons n l ih => rw [List.map_cons, List.flatten_cons, ih]; rfl
theorem ExC.shape {h : Base} : ∀ {m : Nat} {cs : List Value} {e : Ex}, ExC h m cs e → ∃ op val tb nm col ao n ca, cs = cE op val tb nm col (.slice ao n ca)
  | m + 1, cs, .mk op val tb nm col args, ⟨_, av, es, h2, h3, _⟩ => by
    obtain ⟨ao, ca, rfl⟩ := h3.len
    exact ⟨_, _, _, _, _, _, _, _, h2⟩
abbrev bufI (a : Option Nat) (k : Nat) (l : List Int) : Asrt := bufA 3 1 a l.length k (rowI l).flatten
/-- The closure that gathers, with what it has caught. -/
abbrev walkV (BL BW : Nat) : Value := .func (.func 15) #[] #[.pointer (some ⟨BL, 0, none⟩), .pointer (some ⟨BW, 0, none⟩)]
abbrev gathA (BL BW : Nat) (a : Option Nat) (k : Nat) (l : List Int) : List Asrt := [blk BL 27 [bufV a l.length k], bufI a k l, blk BW 42 [walkV BL BW]]
structure GaS where
  j : Nat
  a : Option Nat
  k : Nat
  l : List Int
set_option maxHeartbeats 2000000 in
theorem ColsW : ∀ (m : Nat) (h : Base) (cs : List Value) (e : Ex) (BL BW : Nat) (a : Option Nat) (k : Nat) (l : List Int), ExC h m cs e → l.length + (colsQ e).length ≤ 17592186044415 →
    Tr Try.prog 15 [.agg cs.toArray, .pointer (some ⟨BL, 0, none⟩), .pointer (some ⟨BW, 0, none⟩)] h (gathA BL BW a k l) (fun u h' H' => h = h' ∧ u = .tuple #[] ∧ ∃ a' k', H' = gathA BL BW a' k' (l ++ colsQ e))
  | 0, h, cs, e, BL, BW, a, k, l, hx, _ => hx.elim
  | m + 1, h, cs, .mk op val tb nm col args, BL, BW, a, k, l, ⟨⟨hop, hval, hcol⟩, av, es, hcs, hv, hel, hal, hr⟩, hlen => by
    subst hcs
    have ih := ColsW m h
    obtain ⟨ao, ca, rfl⟩ := hv.len
    rw [hel] at hv ⊢
    have hqq : colsQ (Ex.mk op val tb nm col args) = (if op = 3 then [col] else []) ++ args.flatMap colsQ := by rw [colsQ, colsL_flat]
    rw [hqq] at hlen ⊢
    refine K.enter Try.func15 rfl (Nat.le_of_ble_eq_true rfl) (fun F => ?_)
    simp only [List.nil_append, List.cons_append]
    (repeat' (first | refine X.rq ?_ | (refine X.rc ?_ ?_ <;> intro hc <;> first | (exfalso; omega) | skip)))
    refine K.l_box rfl rfl rfl (fun B3 => ?_)
    (repeat' (first | refine X.rs ?_ | (refine X.rd ?_ ?_ <;> intro hc <;> first | (exfalso; omega) | skip)))
    apply K.c_seq
    refine K.c_join (β := GaS) (fun q => [(1, .pointer (some ⟨BL, 0, none⟩)), (2, .pointer (some ⟨BW, 0, none⟩)), (3, .pointer (some ⟨B3, 0, none⟩))]) (fun _ => h)
      (fun q => blk BL 27 [bufV q.a q.l.length q.k] :: bufI q.a q.k q.l :: blk BW 42 [walkV BL BW] :: blk B3 26 (cE op val tb nm col (.slice ao args.length ca)) :: F)
      (fun q => q.l = l ++ if op = 3 then [col] else []) (fun KJ hJ => ?_) ?_
    · by_cases h3 : op = 3
      · rw [if_pos h3] at hlen ⊢
        simp only [List.length_append, List.length_cons, List.length_nil] at hlen
        (repeat' (first | refine X.rq ?_ | (refine X.rc ?_ ?_ <;> intro hc <;> first | (exfalso; omega) | skip)))
        refine K.l_buildSlice (Fx.und rfl) (Fx.sz rfl) rfl (Fx.zr rfl) rfl rfl rfl (cs := [.int .i64 col]) rfl rfl (fun B12 => ?_)
        refine K.l_append_at 3 rfl (Fx.und rfl) (Fx.und rfl) rfl (Fx.sz rfl) (Fx.zr rfl) rfl (Fx.byt rfl) rfl rfl (K.src_cells (K.cels_own (pre := []) (cs := [.int .i64 col]) (post := []) 0 rfl rfl) rfl (by simp [oneCell])) (by omega) (by omega) rfl (fun a1 k1 => ?_)
        simp only [List.set_cons_zero, List.set_cons_succ, List.eraseIdx_cons_zero, List.eraseIdx_cons_succ, List.cons_append, List.nil_append]
        refine K.WL.drop ?_
        refine X.sto ?_
        simp only [List.set_cons_zero, List.set_cons_succ, List.eraseIdx_cons_zero, List.eraseIdx_cons_succ, List.cons_append, List.nil_append]
        (repeat' (first | refine X.rq ?_ | (refine X.rc ?_ ?_ <;> intro hc <;> first | (exfalso; omega) | skip)))
        refine K.AT.perm (K.pp [1, 1, 1, 0] rfl) ?_
        simp only [List.set_cons_zero, List.set_cons_succ, List.eraseIdx_cons_zero, List.eraseIdx_cons_succ, List.cons_append, List.nil_append]
        refine K.a_join hJ ⟨0, a1, k1, l ++ [col]⟩ (by dsimp only; rw [if_pos h3]) (by repeat (first | exact K.Sub.nil _ | refine K.Sub.cons rfl ?_)) rfl ?_
        dsimp only
        rw [show bufI a1 k1 (l ++ [col]) = bufA 3 1 a1 (l.length + 1) k1 ((rowI l).flatten ++ [.int .i64 col]) from by
          rw [bufI, rowI_app, List.length_append]; rfl, List.length_append]
        rfl
      · rw [if_neg h3]
        (repeat' (first | refine X.rq ?_ | (refine X.rc ?_ ?_ <;> intro hc <;> first | (exfalso; omega) | skip)))
        refine K.AT.perm (K.pp [1, 1, 1, 0] rfl) ?_
        simp only [List.set_cons_zero, List.set_cons_succ, List.eraseIdx_cons_zero, List.eraseIdx_cons_succ, List.cons_append, List.nil_append]
        exact K.a_join hJ ⟨0, a, k, l⟩ (by dsimp only; rw [if_neg h3, List.append_nil]) (by repeat (first | exact K.Sub.nil _ | refine K.Sub.cons rfl ?_)) rfl rfl
    · rintro ⟨_, a1, k1, l1⟩ hl1
      dsimp only at hl1 ⊢
      have hlen1 : l1.length + (args.flatMap colsQ).length ≤ 17592186044415 := by
        rw [hl1, List.length_append]
        rw [List.length_append] at hlen
        omega
      rw [← List.append_assoc, ← hl1]
      clear hl1 hlen
      (repeat' (first | refine X.rq ?_ | (refine X.rc ?_ ?_ <;> intro hc <;> first | (exfalso; omega) | skip)))
      refine K.c_loop (σ := GaS) (fun q => [(1, .pointer (some ⟨BL, 0, none⟩)), (2, .pointer (some ⟨BW, 0, none⟩)), (15, .slice ao args.length ca), (16, .int .i64 args.length), (17, .int .i64 q.j)]) (fun _ => h)
        (fun q => blk BL 27 [bufV q.a q.l.length q.k] :: bufI q.a q.k q.l :: blk BW 42 [walkV BL BW] :: blk B3 26 (cE op val tb nm col (.slice ao args.length ca)) :: F)
        (fun q => q.j ≤ args.length ∧ q.l = l1 ++ (args.take q.j).flatMap colsQ) (fun q => args.length - q.j) ⟨0, a1, k1, l1⟩ ⟨Nat.zero_le _, (List.append_nil l1).symm⟩ (by repeat (first | exact K.Sub.nil _ | refine K.Sub.cons rfl ?_)) rfl rfl ?_
      rintro ⟨j, a2, k2, l2⟩ ⟨hj, hl2⟩ KL hKL
      dsimp only at hj hl2 ⊢
      by_cases hjl : j < args.length
      · have hc1 : es[j]? = some (es[j]'(by omega)) := List.getElem?_eq_getElem (by omega)
        have hc0 : es[((j : Nat) : Int).toNat]? = some (es[j]'(by omega)) := by rw [Int.toNat_natCast]; exact hc1
        have he1 : args[j]? = some args[j] := List.getElem?_eq_getElem hjl
        have htk : args.take (j + 1) = args.take j ++ [args[j]] := List.take_succ_eq_append_getElem hjl
        have hdr : args = args.take (j + 1) ++ args.drop (j + 1) := (List.take_append_drop _ _).symm
        generalize es[j]'(by omega) = c at hc0 hc1
        generalize args[j] = e at he1 htk
        have hce := hr j c e hc1 he1
        have hb : l2.length + (colsQ e).length ≤ 17592186044415 := by
          have h1 : (args.flatMap colsQ).length = ((args.take j).flatMap colsQ).length + (colsQ e).length + ((args.drop (j + 1)).flatMap colsQ).length := by
            conv => lhs; rw [hdr, htk]
            simp [Nat.add_assoc]
          rw [hl2, List.length_append]; omega
        have hih := ih c e BL BW a2 k2 l2 hce hb
        obtain ⟨op', val', tb', nm', col', ao', n', ca', rfl⟩ := hce.shape
        (repeat' (first | refine X.rq ?_ | (refine X.rc ?_ ?_ <;> intro hc <;> first | (exfalso; omega) | skip)))
        refine K.s_pureE (K.p_indexL hv (Fx.und rfl) (Fx.sz rfl) rfl rfl (by omega) hc0) rfl ?_
        rintro v2 ⟨b, o, rfl, hcel⟩
        refine K.s_pure (K.p_loadM (Fx.agg rfl) rfl (Cels.up hcel) (Fx.sz rfl) rfl) rfl ?_
        refine K.l_alloc (Fx.zr rfl) rfl rfl (fun B5 => ?_)
        (repeat' (first | refine X.rq ?_ | (refine X.rc ?_ ?_ <;> intro hc <;> first | (exfalso; omega) | skip)))
        refine X.stw ?_
        simp only [List.set_cons_zero, List.set_cons_succ, List.eraseIdx_cons_zero, List.eraseIdx_cons_succ, List.cons_append, List.nil_append]
        (repeat' (first | refine X.rq ?_ | (refine X.rc ?_ ?_ <;> intro hc <;> first | (exfalso; omega) | skip)))
        refine K.l_callF (vals := [.agg (cE op' val' tb' nm' col' (.slice ao' n' ca')).toArray]) (Fx.cal rfl) rfl rfl hih (K.pp [1, 1, 1] rfl) rfl ?_
        rintro u h' H' - ⟨e, rfl, a3, k3, rfl⟩
        obtain rfl := e
        simp only [List.nil_append, List.cons_append]
        (repeat' (first | refine X.rq ?_ | (refine X.rc ?_ ?_ <;> intro hc <;> first | (exfalso; omega) | skip)))
        refine K.AT.sel [3] rfl ?_
        refine K.a_round hKL ⟨j + 1, a3, k3, l2 ++ colsQ e⟩ ⟨by dsimp only; omega, ?_⟩ (by repeat (first | exact K.Sub.nil _ | refine K.Sub.cons rfl ?_)) rfl rfl (by dsimp only; omega)
        dsimp only
        rw [hl2, htk]
        simp
      · obtain rfl : j = args.length := by omega
        rw [List.take_length] at hl2
        subst hl2
        (repeat' (first | refine X.rq ?_ | (refine X.rc ?_ ?_ <;> intro hc <;> first | (exfalso; omega) | skip)))
        refine K.AT.sel [3] rfl ?_
        refine K.done (by first | exact Or.inl rfl | exact Or.inr rfl) rfl (by first | exact K.Base.le.refl _ | assumption) (H' := gathA BL BW a2 k2 _) rfl ⟨rfl, rfl, a2, k2, rfl⟩
end Go.Proofs.Ytmkhejdamjibgaa.Rw
