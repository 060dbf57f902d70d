/-
  CatalogFinds. Conditions: each theorem's own.
-/
import Derived.Test.YtdjacjhojbkgjaaWj

namespace Go.Proofs.Ytdjacjhojbkgjaa.Ct
open Go Go.K Go.Proofs Go.Proofs.Ytdjacjhojbkgjaa Go.Proofs.Ytdjacjhojbkgjaa.Rw
set_option linter.unusedVariables false
set_option linter.unusedSimpArgs false
set_option maxRecDepth 10000

set_option maxHeartbeats 8000000 in
theorem CatalogFindsW (h : Base) (cs : List Value) (s : PSch) (name : ByteArray) (id : Nat) (hs : SchC h s cs) (hw : wfS s) (hname : name.size ≤ 9223372036854775807) (hid : id < 4294967296) :
    Tr Try.prog 5 [.agg cs.toArray, .string name, .int .u32 id] h [] (fun u h' H' => u = .bool true ∧ H' = []) := by
  obtain ⟨a, k, a2, k2, rfl⟩ := hs.form
  refine K.enter Try.func5 rfl (Nat.le_of_ble_eq_true rfl) (fun F => ?_)
  simp only [List.nil_append, List.cons_append]
  (repeat' (first | refine X.rq ?_ | (refine X.rc ?_ ?_ <;> intro hc <;> first | (exfalso; omega) | skip)))
  refine K.l_box rfl rfl rfl (fun B3 => ?_)
  (repeat' (first | refine X.rq ?_ | (refine X.rc ?_ ?_ <;> intro hc <;> first | (exfalso; omega) | skip)))
  refine K.l_call (Fx.cal rfl) rfl (RCopy h _ s hs hw) (K.pp [] rfl) rfl ?_
  rintro u h1 H' hle1 ⟨a3, k3, a4, k4, es, es2, rfl, hes, hes2, rfl⟩
  simp only [List.set_cons_zero, List.set_cons_succ, List.eraseIdx_cons_zero, List.eraseIdx_cons_succ, List.cons_append, List.nil_append]
  refine K.WL.freezeRowN hes.len.symm (Each.all hes fun x c hc => hc.four) (fun h2 hle2 hs2 => ?_)
  refine K.WL.freezeRowN hes2.len.symm (Each.all hes2 fun x c hc => hc.six) (fun h3 hle3 hs3 => ?_)
  have hcp := copied (hs2.le hle3) (hes.mono fun x c hc => hc.le (hle2.trans hle3)) hs3 (hes2.mono fun x c hc => hc.le (hle2.trans hle3))
  have hle := hle1.trans (hle2.trans hle3)
  replace hs := hs.le hle
  clear hs2 hs3 hes hes2
  (repeat' (first | refine X.rq ?_ | (refine X.rc ?_ ?_ <;> intro hc <;> first | (exfalso; omega) | skip)))
  refine K.l_alloc (Fx.zr rfl) rfl rfl (fun B7 => ?_)
  refine X.stw ?_
  simp only [List.set_cons_zero, List.set_cons_succ, List.eraseIdx_cons_zero, List.eraseIdx_cons_succ, List.cons_append, List.nil_append]
  (repeat' (first | refine X.rq ?_ | (refine X.rc ?_ ?_ <;> intro hc <;> first | (exfalso; omega) | skip)))
  refine K.l_call (Fx.cal rfl) rfl (Named h3 _ s name hcp hw) (K.pp [] rfl) rfl ?_
  rintro u h4 H' hle4 ⟨rfl, v1, rfl, hv1, hf1⟩
  have g1 := got_len hw fun t => decide (t.name = name)
  have hlt := g1
  generalize ho1 : s.tabs.find? (fun t => decide (t.name = name)) = o1 at hv1 g1 hlt ⊢
  obtain ⟨av1, cv1, rfl⟩ := hv1.len
  rw [List.length_map] at hv1 hf1 ⊢
  simp only [List.set_cons_zero, List.set_cons_succ, List.eraseIdx_cons_zero, List.eraseIdx_cons_succ, List.cons_append, List.nil_append]
  (repeat' (first | refine X.rq ?_ | (refine X.rc ?_ ?_ <;> intro hc <;> first | (exfalso; omega) | skip)))
  refine K.l_alloc (Fx.zr rfl) rfl rfl (fun B8 => ?_)
  refine X.stw ?_
  simp only [List.set_cons_zero, List.set_cons_succ, List.eraseIdx_cons_zero, List.eraseIdx_cons_succ, List.cons_append, List.nil_append]
  (repeat' (first | refine X.rq ?_ | (refine X.rc ?_ ?_ <;> intro hc <;> first | (exfalso; omega) | skip)))
  refine K.l_call (Fx.cal rfl) rfl (RNamed h4 _ s name (hs.le hle4) hw) (K.pp [] rfl) rfl ?_
  rintro u h' H' - ⟨e, rfl, c2, rfl, hc2⟩
  obtain rfl := e.symm
  rw [ho1] at hc2 ⊢
  simp only [List.set_cons_zero, List.set_cons_succ, List.eraseIdx_cons_zero, List.eraseIdx_cons_succ, List.cons_append, List.nil_append]
  obtain ⟨v2, rfl, hv2⟩ := hc2
  obtain ⟨av2, cv2, rfl⟩ := hv2.len
  rw [List.length_map] at hv2 ⊢
  (repeat' (first | refine X.rq ?_ | (refine X.rc ?_ ?_ <;> intro hc <;> first | (exfalso; omega) | skip)))
  refine K.l_alloc (Fx.zr rfl) rfl rfl (fun B10 => ?_)
  refine X.stw ?_
  simp only [List.set_cons_zero, List.set_cons_succ, List.eraseIdx_cons_zero, List.eraseIdx_cons_succ, List.cons_append, List.nil_append]
  (repeat' (first | refine X.rq ?_ | (refine X.rc ?_ ?_ <;> intro hc <;> first | (exfalso; omega) | skip)))
  refine K.l_call (Fx.cal rfl) rfl (Table h4 _ s id (hcp.le hle4) hw) (K.pp [] rfl) rfl ?_
  rintro u h5 H' hle5 ⟨rfl, v3, rfl, hv3, _⟩
  have g3 := got_len hw fun t => decide (t.id = id)
  generalize ho3 : s.tabs.find? (fun t => decide (t.id = id)) = o3 at hv3 g3 ⊢
  obtain ⟨av3, cv3, rfl⟩ := hv3.len
  rw [List.length_map] at hv3 ⊢
  simp only [List.set_cons_zero, List.set_cons_succ, List.eraseIdx_cons_zero, List.eraseIdx_cons_succ, List.cons_append, List.nil_append]
  (repeat' (first | refine X.rq ?_ | (refine X.rc ?_ ?_ <;> intro hc <;> first | (exfalso; omega) | skip)))
  refine K.l_alloc (Fx.zr rfl) rfl rfl (fun B12 => ?_)
  refine X.stw ?_
  simp only [List.set_cons_zero, List.set_cons_succ, List.eraseIdx_cons_zero, List.eraseIdx_cons_succ, List.cons_append, List.nil_append]
  (repeat' (first | refine X.rq ?_ | (refine X.rc ?_ ?_ <;> intro hc <;> first | (exfalso; omega) | skip)))
  have hle35 := hle4.trans hle5
  refine K.l_call (Fx.cal rfl) rfl (RTable h5 _ s id (hs.le hle35) hw) (K.pp [] rfl) rfl ?_
  rintro u h' H' - ⟨e, rfl, c4, rfl, hc4⟩
  obtain rfl := e.symm
  rw [ho3] at hc4 ⊢
  simp only [List.set_cons_zero, List.set_cons_succ, List.eraseIdx_cons_zero, List.eraseIdx_cons_succ, List.cons_append, List.nil_append]
  obtain ⟨v4, rfl, hv4⟩ := hc4
  obtain ⟨av4, cv4, rfl⟩ := hv4.len
  rw [List.length_map] at hv4 ⊢
  (repeat' (first | refine X.rq ?_ | (refine X.rc ?_ ?_ <;> intro hc <;> first | (exfalso; omega) | skip)))
  refine K.l_alloc (Fx.zr rfl) rfl rfl (fun B14 => ?_)
  refine X.stw ?_
  simp only [List.set_cons_zero, List.set_cons_succ, List.eraseIdx_cons_zero, List.eraseIdx_cons_succ, List.cons_append, List.nil_append]
  have hbb : ∀ b : Bool, (!(b == b)) = false := fun b => by simp
  have hdd : ∀ b : Bool, decide (b ≠ b) = false := fun b => by simp
  (repeat' (first | refine X.rq ?_ | (refine X.rc ?_ ?_ <;> intro hc <;> first | (exfalso; omega) | skip)))
  all_goals first | (exfalso; simp_all; done) | skip
  have t1 : TabC h5 (o1.getD zTab) (cTab (o1.getD zTab) (.slice av1 (o1.getD zTab).cols.length cv1)) := ⟨_, rfl, hv1.le hle5⟩
  have t2 : TabC h5 (o1.getD zTab) (cTab (o1.getD zTab) (.slice av2 (o1.getD zTab).cols.length cv2)) := ⟨_, rfl, hv2.le hle5⟩
  have t3 : TabC h5 (o3.getD zTab) (cTab (o3.getD zTab) (.slice av3 (o3.getD zTab).cols.length cv3)) := ⟨_, rfl, hv3⟩
  have t4 : TabC h5 (o3.getD zTab) (cTab (o3.getD zTab) (.slice av4 (o3.getD zTab).cols.length cv4)) := ⟨_, rfl, hv4⟩
  refine K.l_callV (Fx.cal rfl) rfl (SameTable h5 _ _ _ _ t1 t2 g1 g1) (K.pp [] rfl) rfl rfl ?_
  simp only [List.nil_append, decide_true]
  (repeat' (first | refine X.rq ?_ | (refine X.rc ?_ ?_ <;> intro hc <;> first | (exfalso; omega) | skip)))
  refine K.l_callV (Fx.cal rfl) rfl (SameTable h5 _ _ _ _ t3 t4 g3 g3) (K.pp [] rfl) rfl rfl ?_
  simp only [List.nil_append, decide_true]
  refine K.WL.dropsA (A := [_, _, _]) ?_
  (repeat' (first | refine X.rq ?_ | (refine X.rc ?_ ?_ <;> intro hc <;> first | (exfalso; omega) | skip)))
  refine K.l_call (Fx.cal rfl) rfl (Index h5 _ s name (hcp.le hle35) hw) (K.pp [] rfl) rfl ?_
  rintro u h6 H' hle6 ⟨rfl, v5, rfl, hv5, _⟩
  have g5 := got_leni hw fun t => decide (t.name = name)
  generalize ho5 : s.idxs.find? (fun t => decide (t.name = name)) = o5 at hv5 g5 ⊢
  obtain ⟨av5, cv5, rfl⟩ := hv5.len
  simp only [List.set_cons_zero, List.set_cons_succ, List.eraseIdx_cons_zero, List.eraseIdx_cons_succ, List.cons_append, List.nil_append]
  (repeat' (first | refine X.rq ?_ | (refine X.rc ?_ ?_ <;> intro hc <;> first | (exfalso; omega) | skip)))
  refine K.l_alloc (Fx.zr rfl) rfl rfl (fun B16 => ?_)
  refine X.stw ?_
  simp only [List.set_cons_zero, List.set_cons_succ, List.eraseIdx_cons_zero, List.eraseIdx_cons_succ, List.cons_append, List.nil_append]
  (repeat' (first | refine X.rq ?_ | (refine X.rc ?_ ?_ <;> intro hc <;> first | (exfalso; omega) | skip)))
  have hle36 := hle35.trans hle6
  refine K.l_call (Fx.cal rfl) rfl (RIndex h6 _ s name (hs.le hle36) hw) (K.pp [] rfl) rfl ?_
  rintro u h' H' - ⟨e, rfl, c6, rfl, hc6⟩
  obtain rfl := e.symm
  rw [ho5] at hc6 ⊢
  simp only [List.set_cons_zero, List.set_cons_succ, List.eraseIdx_cons_zero, List.eraseIdx_cons_succ, List.cons_append, List.nil_append]
  obtain ⟨v6, rfl, hv6⟩ := hc6
  obtain ⟨av6, cv6, rfl⟩ := hv6.len
  (repeat' (first | refine X.rq ?_ | (refine X.rc ?_ ?_ <;> intro hc <;> first | (exfalso; omega) | skip)))
  refine K.l_alloc (Fx.zr rfl) rfl rfl (fun B18 => ?_)
  refine X.stw ?_
  simp only [List.set_cons_zero, List.set_cons_succ, List.eraseIdx_cons_zero, List.eraseIdx_cons_succ, List.cons_append, List.nil_append]
  (repeat' (first | refine X.rq ?_ | (refine X.rc ?_ ?_ <;> intro hc <;> first | (exfalso; omega) | skip)))
  refine K.l_call (Fx.cal rfl) rfl (On h6 _ s id (hcp.le hle36) hw) (K.pp [] rfl) rfl ?_
  rintro u h7 H' hle7 ⟨rfl, es7, hs7, hf7, he7⟩
  obtain ⟨av7, cv7, rfl⟩ := hs7.len
  simp only [List.set_cons_zero, List.set_cons_succ, List.eraseIdx_cons_zero, List.eraseIdx_cons_succ, List.cons_append, List.nil_append]
  (repeat' (first | refine X.rq ?_ | (refine X.rc ?_ ?_ <;> intro hc <;> first | (exfalso; omega) | skip)))
  all_goals first | (exfalso; simp_all; done) | skip
  have x1 : IdxC h7 (o5.getD zIdx) (cIdx (o5.getD zIdx) (.slice av5 (rowN (o5.getD zIdx).cols).length cv5)) := ⟨_, rfl, hv5.le hle7⟩
  have x2 : IdxC h7 (o5.getD zIdx) (cIdx (o5.getD zIdx) (.slice av6 (rowN (o5.getD zIdx).cols).length cv6)) := ⟨_, rfl, hv6.le hle7⟩
  refine K.l_callV (Fx.cal rfl) rfl (SameIndex h7 _ _ _ _ x1 x2 g5 g5) (K.pp [] rfl) rfl rfl ?_
  simp only [List.nil_append, decide_true]
  (repeat' (first | refine X.rq ?_ | (refine X.rc ?_ ?_ <;> intro hc <;> first | (exfalso; omega) | skip)))
  have hle37 := hle36.trans hle7
  refine K.l_call (Fx.cal rfl) rfl (ROn h7 _ s id (hs.le hle37) hw) (K.pp [] rfl) rfl ?_
  rintro u h8 H' hle8 ⟨rfl, es8, hs8, he8⟩
  obtain ⟨av8, cv8, rfl⟩ := hs8.len
  simp only [List.set_cons_zero, List.set_cons_succ, List.eraseIdx_cons_zero, List.eraseIdx_cons_succ, List.cons_append, List.nil_append]
  (repeat' (first | refine X.rq ?_ | (refine X.rc ?_ ?_ <;> intro hc <;> first | (exfalso; omega) | skip)))
  have hwo : ∀ x ∈ onQ s id, x.cols.length ≤ 17592186044416 := fun x hx => (hw.idxs x (List.mem_filter.1 hx).1).len
  have hlo : (onQ s id).length ≤ 9223372036854775807 := Nat.le_trans (List.length_filter_le ..) (Nat.le_trans hw.li (by decide))
  refine K.l_callV (Fx.cal rfl) rfl (SameIndexes h8 _ _ es7 es8 (onQ s id) (onQ s id) (hs7.le hle8) (he7.mono fun x c hc => hc.c.le hle8) hs8 he8 hwo hwo hlo hlo) (K.pp [] rfl) rfl rfl ?_
  simp only [List.nil_append, decide_true]
  have hle38 := hle37.trans hle8
  have hf1' := hf1.le (K.Base.le.refl h3) (hle5.trans (hle6.trans (hle7.trans hle8)))
  have hv1' := hv1.le (hle5.trans (hle6.trans (hle7.trans hle8)))
  have hf7' := hf7.le hle36 hle8
  have hs7' := hs7.le hle8
  have he7' : Each (IdxF h3 h8) es7 (onQ s id) := he7.mono fun x c hc => hc.le hle36 hle8
  rw [he7.len] at hf7' hs7' ⊢
  generalize onQ s id = lx at hwo hlo he7' hf7' hs7' ⊢
  refine K.WL.thaw (h := h3) hle38 (fun L g hww hg hL => ?_)
  replace hg := Cmp2.of hg
  (repeat' (first | refine X.rq ?_ | (refine X.rc ?_ ?_ <;> intro hc <;> first | (exfalso; omega) | skip)))
  clear t1 t2 t3 t4 x1 x2 g1 g3 g5 hv1 hv2 hv3 hv4 hv5 hv6 hf1 hf7 hs7 he7 hs8 he8 ho1 ho3 ho5
  refine K.WC.sel [1, 1] rfl ?_
  generalize o1.getD zTab = tt at hv1' hf1' hlt ⊢
  have hcpf := hcp
  have hsf := hs
  have hgl : tt.cols.length ≤ 4398046511104 := hlt
  refine K.c_loop (σ := Nat × (Nat → List Value)) (fun q => [(3, .pointer (some ⟨B3, 0, none⟩)), (7, .pointer (some ⟨B7, 0, none⟩)), (8, .pointer (some ⟨B8, 0, none⟩)), (20, .slice av7 lx.length cv7), (21, .int .i64 q.1)]) (fun _ => h3) (fun q => spA h8 L q.2 :: blk B8 46 (cTab tt (.slice av1 tt.cols.length cv1)) :: blk B7 25 [bufV a3 s.tabs.length k3, bufV a4 s.idxs.length k4] :: blk B3 25 [.slice a s.tabs.length k, .slice a2 s.idxs.length k2] :: F) (fun q => q.1 ≤ tt.cols.length ∧ Cmp2 h8 L q.2) (fun q => tt.cols.length - q.1) (0, g) ⟨Nat.zero_le _, hg⟩ (by repeat (first | exact K.Sub.nil _ | refine K.Sub.cons rfl ?_)) rfl rfl ?_
  rintro ⟨j, g1⟩ ⟨hj, hg1⟩ KL hKL
  dsimp only at hj hg1 ⊢
  by_cases hjl : j < tt.cols.length
  · have hc1 : (tt.cols.map cC)[j]? = some (cC tt.cols[j]) := by rw [List.getElem?_map, List.getElem?_eq_getElem hjl]; rfl
    generalize tt.cols[j] = x at hc1
    obtain ⟨bI, arrI, TI, fzI, rfl, hbI, hmI, hfI, hgI⟩ := spR2 hww hL hv1' hf1' hc1 hjl
    obtain ⟨u0, hu0, hc0⟩ := hgI g1 hg1 0 _ rfl
    obtain ⟨s0, rfl⟩ := cmp2_string hc0
    have hz0 := hfI 0 (by decide)
    rw [Nat.add_zero] at hu0 hz0
    (repeat' (first | refine X.rq ?_ | (refine X.rc ?_ ?_ <;> intro hc <;> first | (exfalso; omega) | skip)))
    refine K.l_storeSp (o := j * 3) (Fx.sz rfl) (by first | rfl | (show some _ = some _; simp; done)) rfl rfl hbI hmI (List.getElem?_eq_some_iff.1 hu0).1 hz0 ?_
    have hg2 := fun u => hg1.upd (u1 := .string u) hu0 (.inr (.inr ⟨_, _, rfl, rfl⟩))
    (repeat' (first | refine X.rq ?_ | (refine X.rc ?_ ?_ <;> intro hc <;> first | (exfalso; omega) | skip)))
    refine K.a_round hKL (j + 1, _) ⟨by dsimp only; omega, hg2 _⟩ (by repeat (first | exact K.Sub.nil _ | refine K.Sub.cons rfl ?_)) rfl rfl (by dsimp only; omega)
  obtain rfl : j = tt.cols.length := by omega
  (repeat' (first | refine X.rq ?_ | (refine X.rc ?_ ?_ <;> intro hc <;> first | (exfalso; omega) | skip)))
  refine K.c_loop (σ := Nat × (Nat → List Value)) (fun q => [(3, .pointer (some ⟨B3, 0, none⟩)), (7, .pointer (some ⟨B7, 0, none⟩)), (20, .slice av7 lx.length cv7), (22, .int .i64 q.1)]) (fun _ => h3) (fun q => spA h8 L q.2 :: blk B8 46 (cTab tt (.slice av1 tt.cols.length cv1)) :: blk B7 25 [bufV a3 s.tabs.length k3, bufV a4 s.idxs.length k4] :: blk B3 25 [.slice a s.tabs.length k, .slice a2 s.idxs.length k2] :: F) (fun q => q.1 ≤ lx.length ∧ Cmp2 h8 L q.2) (fun q => lx.length - q.1) (0, g1) ⟨Nat.zero_le _, hg1⟩ (by repeat (first | exact K.Sub.nil _ | refine K.Sub.cons rfl ?_)) rfl rfl ?_
  clear hg1 hKL hj hjl
  rintro ⟨j, g1⟩ ⟨hj, hg1⟩ KM hKM
  dsimp only at hj hg1 ⊢
  by_cases hjl : j < lx.length
  · have hx1 : lx[j]? = some lx[j] := List.getElem?_eq_getElem hjl
    have hwl := hwo _ (List.getElem_mem hjl)
    generalize lx[j] = x at hx1 hwl
    obtain ⟨_, hc1, v9, rfl, hs9, hf9⟩ := he7'.get hx1
    obtain ⟨av9, cv9, rfl⟩ := hs9.len
    have hlr : (rowN x.cols).length = x.cols.length := List.length_map ..
    rw [hlr] at hs9 hf9 hc1
    obtain ⟨bI, arrI, TI, fzI, rfl, hbI, hmI, hfI, hgI⟩ := spR2 hww hL hs7' hf7' hc1 hjl
    (repeat' (first | refine X.rq ?_ | (refine X.rc ?_ ?_ <;> intro hc <;> first | (exfalso; omega) | skip)))
    refine K.c_loop (σ := Nat × (Nat → List Value)) (fun q => [(3, .pointer (some ⟨B3, 0, none⟩)), (7, .pointer (some ⟨B7, 0, none⟩)), (20, .slice (some ⟨bI, 0, none⟩) lx.length cv7), (22, .int .i64 j), (23, .int .i64 q.1)]) (fun _ => h3) (fun q => spA h8 L q.2 :: blk B8 46 (cTab tt (.slice av1 tt.cols.length cv1)) :: blk B7 25 [bufV a3 s.tabs.length k3, bufV a4 s.idxs.length k4] :: blk B3 25 [.slice a s.tabs.length k, .slice a2 s.idxs.length k2] :: F) (fun q => q.1 ≤ x.cols.length ∧ Cmp2 h8 L q.2) (fun q => x.cols.length - q.1) (0, g1) ⟨Nat.zero_le _, hg1⟩ (by repeat (first | exact K.Sub.nil _ | refine K.Sub.cons rfl ?_)) rfl rfl ?_
    clear hg1
    rintro ⟨m, g1⟩ ⟨hm, hg1⟩ KO hKO
    dsimp only at hm hg1 ⊢
    obtain ⟨u3, hu3, hc3⟩ := hgI g1 hg1 3 _ rfl
    obtain rfl := cmp2_slice hc3
    have ho3 : 0 + ((j : Nat) : Int).toNat * 6 + 3 = j * 6 + 3 := by rw [Int.toNat_natCast, Nat.zero_add]
    have hcel3 : ∀ KK, Cel h3 (spA h8 L g1 :: KK) bI (0 + ((j : Nat) : Int).toNat * 6 + 3) (.slice av9 x.cols.length cv9) := fun KK => K.cel_sp 0 rfl hbI (by rw [ho3]; exact hu3)
    replace hcel3 := hcel3 (blk B8 46 (cTab tt (.slice av1 tt.cols.length cv1)) :: blk B7 25 [bufV a3 s.tabs.length k3, bufV a4 s.idxs.length k4] :: blk B3 25 [.slice a s.tabs.length k, .slice a2 s.idxs.length k2] :: F)
    by_cases hml : m < x.cols.length
    · have hd1 : (rowN x.cols)[m]? = some [iV x.cols[m]] := by rw [rowN, List.getElem?_map, List.getElem?_eq_getElem hml]; rfl
      generalize x.cols[m] = z at hd1
      obtain ⟨bC, arrC, TC, fzC, rfl, hbC, hmC, hfC, hgC⟩ := spR2 hww hL hs9 hf9 hd1 hml
      obtain ⟨u0, hu0, hc0⟩ := hgC g1 hg1 0 _ rfl
      obtain ⟨b1, rfl⟩ := cmp2_int hc0
      have hz0 := hfC 0 (by decide)
      rw [Nat.add_zero, Nat.mul_one] at hu0 hz0
      (repeat' (first | refine X.rq ?_ | (refine X.rc ?_ ?_ <;> intro hc <;> first | (exfalso; omega) | skip)))
      refine K.l_storeSp (o := m) (Fx.sz rfl) (by first | rfl | (show some _ = some _; simp; done)) rfl rfl hbC hmC (List.getElem?_eq_some_iff.1 hu0).1 hz0 ?_
      have hg2 := fun u => hg1.upd (u1 := .int .i64 u) hu0 (.inr (.inl ⟨_, _, _, rfl, rfl⟩))
      (repeat' (first | refine X.rq ?_ | (refine X.rc ?_ ?_ <;> intro hc <;> first | (exfalso; omega) | skip)))
      refine K.a_round hKO (m + 1, _) ⟨by dsimp only; omega, hg2 _⟩ (by repeat (first | exact K.Sub.nil _ | refine K.Sub.cons rfl ?_)) rfl rfl (by dsimp only; omega)
    · obtain rfl : m = x.cols.length := by omega
      (repeat' (first | refine X.rq ?_ | (refine X.rc ?_ ?_ <;> intro hc <;> first | (exfalso; omega) | skip)))
      refine K.a_round hKM (j + 1, _) ⟨by dsimp only; omega, hg1⟩ (by repeat (first | exact K.Sub.nil _ | refine K.Sub.cons rfl ?_)) rfl rfl (by dsimp only; omega)
  obtain rfl : j = lx.length := by omega
  (repeat' (first | refine X.rq ?_ | (refine X.rc ?_ ?_ <;> intro hc <;> first | (exfalso; omega) | skip)))
  refine K.l_callV (Fx.cal rfl) rfl (SameS h3 _ _ s s hcpf hsf hw hw) (K.pp [] rfl) rfl rfl ?_
  simp only [List.nil_append, decide_true]
  (repeat' (first | refine X.rq ?_ | (refine X.rc ?_ ?_ <;> intro hc <;> first | (exfalso; omega) | skip)))
  refine K.l_call (Fx.cal rfl) rfl (Awake h3) (K.pp [] rfl) rfl ?_
  rintro u h9 H' hle9 ⟨rfl, rfl⟩
  simp only [List.set_cons_zero, List.set_cons_succ, List.eraseIdx_cons_zero, List.eraseIdx_cons_succ, List.cons_append, List.nil_append]
  (repeat' (first | refine X.rq ?_ | (refine X.rc ?_ ?_ <;> intro hc <;> first | (exfalso; omega) | skip)))
  refine K.AT.dropsA (A := [_, _, _, _]) ?_
  refine K.done (.inl rfl) rfl (hle.trans hle9) (H' := []) rfl ⟨rfl, rfl⟩
end Go.Proofs.Ytdjacjhojbkgjaa.Ct
