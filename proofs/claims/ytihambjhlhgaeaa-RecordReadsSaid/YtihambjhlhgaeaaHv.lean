/-
  Records in the document: a copy. Conditions: each theorem's own.
-/
import Derived.Test.YtihambjhlhgaeaaJA

namespace Go.Proofs.Ytihambjhlhgaeaa.Rc
open Go Go.K Go.Proofs Go.Proofs.Ytihambjhlhgaeaa Go.Proofs.Ytihambjhlhgaeaa.Pg Go.Proofs.Ytihambjhlhgaeaa.Cc Go.Proofs.Ytihambjhlhgaeaa.Rb
set_option linter.unusedVariables false
set_option linter.unusedSimpArgs false
set_option maxRecDepth 10000

structure CpS where
  b : Base
  j : Nat
  a : Option Nat
  cap : Nat
  es : List (List Value)
theorem cL_ones (x : PLive) : K.ones (Rc.cL x) = true := rfl
theorem cD_ones (x : PDirty) : K.ones (Rc.cD x) = true := rfl
set_option maxHeartbeats 4000000 in
theorem RecCopy (h : Base) (cs : List Value) (r : Recd) (hx : RecC h cs r) (hs : shortR r) : Tr Try.prog 10 [.agg cs.toArray] h [] (fun u h' H' => H' = [] ∧ ∃ cs', u = .agg cs'.toArray ∧ RecC h' cs' r) := by
  obtain ⟨hw, ad, ai, al, ay, cd, ci, cl, cy, rfl, hb, ⟨es, hi1, hi2, hi3⟩, hl4, hd2⟩ := hx.cells
  have s1 := hs.img
  have s2 := hs.liv
  have s3 := hs.dir
  have s4 := hs.dat
  have hsc := fun (_ : Unit) => hs.cel
  have hw0 := fun (_ : Unit) => hw
  have hop := CopyOp h (cO r.op (.slice ad r.op.data.length cd)) r.op ⟨hw.op, _, _, rfl, hb⟩ (by omega)
  clear hx hs hw
  refine K.enter Try.func10 rfl (Nat.le_of_ble_eq_true rfl) (fun F => ?_)
  simp only [List.nil_append]
  (repeat' (first | refine X.rq ?_ | (refine X.rc ?_ ?_ <;> intro hc <;> first | (exfalso; omega) | skip)))
  refine K.l_box rfl rfl rfl (fun B1 => ?_)
  refine K.l_alloc (Fx.zr rfl) rfl rfl (fun B2 => ?_)
  (repeat' (first | refine X.rq ?_ | (refine X.rc ?_ ?_ <;> intro hc <;> first | (exfalso; omega) | skip)))
  refine K.s_pure (K.p_loadM (Fx.agg rfl) rfl (K.cels_own (pre := [.int .i64 r.kind, .int .u64 r.lsn, .int .u32 r.txn, .int .u64 r.prev, .int .u64 r.undo, .int .u32 r.page, .int .u32 r.root]) (cs := cO r.op (.slice ad r.op.data.length cd)) (post := [.slice ai r.images.length ci, .slice al r.lives.length cl, .slice ay r.dirty.length cy, .int .u32 r.next]) 1 rfl rfl) (Fx.sz rfl) rfl) rfl ?_
  refine K.l_call (Fx.cal rfl) rfl hop (K.pp [] rfl) rfl ?_
  rintro u h' H' - ⟨e, a2, c2, rfl, rfl⟩
  obtain rfl := e.symm
  simp only [List.cons_append, List.nil_append]
  refine K.WL.freezeBuf (fun h2 le2 hb2 => ?_)
  refine K.WL.perm (K.pp [1] rfl) ?_
  simp only [List.set_cons_zero, List.set_cons_succ, List.eraseIdx_cons_zero, List.eraseIdx_cons_succ, List.cons_append, List.nil_append]
  obtain ⟨ad2, cd2, e2⟩ : ∃ x y, bufV a2 r.op.data.length c2 = .slice x r.op.data.length y := ⟨_, _, rfl⟩
  rw [e2] at hb2 ⊢
  (repeat' (first | refine X.rq ?_ | (refine X.rc ?_ ?_ <;> intro hc <;> first | (exfalso; omega) | skip)))
  refine K.l_storeN (pre := [.int .i64 r.kind, .int .u64 r.lsn, .int .u32 r.txn, .int .u64 r.prev, .int .u64 r.undo, .int .u32 r.page, .int .u32 r.root]) (cs := cO r.op (.slice ad r.op.data.length cd)) (post := [.slice ai r.images.length ci, .slice al r.lives.length cl, .slice ay r.dirty.length cy, .int .u32 r.next]) (us := cO r.op (.slice ad2 r.op.data.length cd2)) (Fx.sz rfl) rfl rfl rfl rfl rfl (K.Free.zero _) ?_
  show WL Try.prog _ _ _ _ _ _ (blk B1 31 (cR r (.slice ad2 r.op.data.length cd2) (.slice ai r.images.length ci) (.slice al r.lives.length cl) (.slice ay r.dirty.length cy)) :: _)
  (repeat' (first | refine X.rq ?_ | (refine X.rc ?_ ?_ <;> intro hc <;> first | (exfalso; omega) | skip)))
  refine K.WC.nilBuf 53 5 ?_
  refine K.c_loop (σ := CpS) (fun q => [(1, .pointer (some ⟨B1, 0, none⟩)), (2, .pointer (some ⟨B2, 0, none⟩)), (3, bufV q.a q.es.length q.cap), (4, .int .i64 q.j)]) (fun q => q.b)
    (fun q => bufA 53 5 q.a q.es.length q.cap q.es.flatten :: blk B1 31 (cR r (.slice ad2 r.op.data.length cd2) (.slice ai r.images.length ci) (.slice al r.lives.length cl) (.slice ay r.dirty.length cy)) :: blk B2 31 (cR zR (.slice none 0 0) (.slice none 0 0) (.slice none 0 0) (.slice none 0 0)) :: F)
    (fun q => h2.le q.b ∧ q.j ≤ r.images.length ∧ RowsG (ImgC q.b) q.es (r.images.take q.j)) (fun q => r.images.length - q.j) ⟨h2, 0, none, 0, []⟩ ⟨K.Base.le.refl _, Nat.zero_le _, RowsG.nil⟩ (by repeat (first | exact K.Sub.nil _ | refine K.Sub.cons rfl ?_)) rfl rfl ?_
  rintro ⟨hb3, j, a, cap, fs⟩ ⟨hle, hj, hrow⟩ KL hKL
  dsimp only at hle hj hrow ⊢
  have hfl : fs.length = j := by rw [hrow.1, List.length_take]; omega
  have hleh := le2.trans hle
  by_cases hjl : j < r.images.length
  · have hc1 : es[j]? = some (es[j]'(by omega)) := List.getElem?_eq_getElem (by omega)
    have hc0 : es[((j : Nat) : Int).toNat]? = some (es[j]'(by omega)) := by rw [Int.toNat_natCast]; exact hc1
    have he1 : r.images[j]? = some (r.images[j]'(by omega)) := List.getElem?_eq_getElem hjl
    have hmem : r.images[j] ∈ r.images := List.getElem_mem hjl
    generalize es[j]'(by omega) = c at hc0 hc1
    generalize r.images[j]'(by omega) = x at he1 hmem
    have hsx := hsc () x hmem
    have hix := (hi3 j c x hc1 he1).le hleh
    have hi1' := hi1.le hleh
    obtain ⟨hpg, cs, rfl, hpc⟩ := hix
    have hcopy := CopyPage hb3 cs x.to hpc ⟨by have := hsx.1; omega, fun z hz => by have := hsx.2 z hz; omega⟩
    obtain ⟨hwp, cv5, rfl, _⟩ := hpc
    clear hi3 hsc hsx
    (repeat' (first | refine X.rq ?_ | (refine X.rc ?_ ?_ <;> intro hc <;> first | (exfalso; omega) | skip)))
    refine X.draw ([blk B1 31 (cR r (.slice ad2 r.op.data.length cd2) (.slice ai r.images.length ci) (.slice al r.lives.length cl) (.slice ay r.dirty.length cy))]) [] (.pu 0 (.pu 1 (.pu 3 (.pu 7 (.pu 9 (.st 2 (.st 4 (.pu 5 (.st 6 (.st 8 (.st 10 (.pu 11 (.st 12 (.on 13 (.pu 14 (.on 15 (.on 16 (.pu 17 .nil)))))))))))))))))) ?_
    refine K.d_pu rfl (fun _ _ => X.mv) rfl ?_
    refine K.d_pu rfl (fun _ _ => X.fa) rfl ?_
    refine K.d_pu rfl (fun _ _ => X.mv) rfl ?_
    refine K.d_pu rfl (fun _ _ => X.fa) rfl ?_
    refine K.d_pu rfl (fun _ _ => X.mv) rfl ?_
    refine K.d_st rfl X.ld rfl ?_
    refine K.d_stE rfl (K.p_indexL hi1' (Fx.und rfl) (Fx.sz rfl) rfl rfl (by omega) hc0) rfl ?_
    rintro v4 ⟨b4, o4, rfl, hcel4⟩
    refine K.d_pu rfl (fun _ _ => X.fa) rfl ?_
    refine K.d_st rfl (K.p_load (Fx.agg rfl) rfl (K.Cel.up hcel4.1)) rfl ?_
    refine K.d_st rfl X.ld rfl ?_
    refine K.d_stE rfl (K.p_indexL hi1' (Fx.und rfl) (Fx.sz rfl) rfl rfl (by omega) hc0) rfl ?_
    rintro v6 ⟨b6, o6, rfl, hcel6⟩
    refine K.d_pu rfl (fun _ _ => X.fa) rfl ?_
    refine K.d_st rfl (K.p_loadM (Fx.agg rfl) rfl (Cels.up hcel6.2) (Fx.sz rfl) rfl) rfl ?_
    refine K.d_on rfl (fun KK hKK => ?_)
    refine K.l_call (Fx.cal rfl) rfl hcopy (K.pp [] rfl) rfl ?_
    rintro u hb7 H' le7 ⟨a7, cap7, es7, rfl, hrow7, rfl⟩
    have h7l := hrow7.1
    rw [← h7l]
    simp only [List.cons_append, List.nil_append]
    refine K.WL.freezeRow hrow7.2.1 (fun hb8 le8 hsl8 hcap8 => ?_)
    obtain ⟨ao8, ca8, e8⟩ := hsl8.len
    rw [e8] at hsl8 ⊢
    have le78 := le7.trans le8
    refine K.l_nil ?_
    refine X.onE hKK ?_
    refine K.d_pu rfl (fun _ _ => X.bd) rfl ?_
    refine K.d_on rfl (fun KK hKK => ?_)
    refine K.l_buildSlice (Fx.und rfl) (Fx.sz rfl) rfl (Fx.zr rfl) rfl rfl rfl (cs := [.int .u32 x.page, .int .i64 x.to.kind, .int .u64 x.to.lsn, .int .u32 x.to.next, .slice ao8 es7.length ca8]) rfl rfl (fun B10 => ?_)
    refine K.l_nil ?_
    refine X.onE hKK ?_
    refine K.d_on rfl (fun KK hKK => ?_)
    refine K.l_append_at 1 rfl (Fx.und rfl) (Fx.und rfl) rfl (Fx.sz rfl) (Fx.zr rfl) rfl (Fx.byt rfl) rfl rfl (K.src_cells (K.cels_own (pre := []) (cs := [.int .u32 x.page, .int .i64 x.to.kind, .int .u64 x.to.lsn, .int .u32 x.to.next, .slice ao8 es7.length ca8]) (post := []) 0 rfl rfl) rfl (List.all_eq_true.1 (show ones [.int .u32 x.page, .int .i64 x.to.kind, .int .u64 x.to.lsn, .int .u32 x.to.next, .slice ao8 es7.length ca8] = true from rfl))) (by omega) (by omega) rfl (fun a9 cap9 => ?_)
    simp only [List.set_cons_zero, List.set_cons_succ, List.eraseIdx_cons_zero, List.eraseIdx_cons_succ, List.cons_append, List.nil_append]
    refine K.l_nil ?_
    refine X.onE hKK ?_
    refine K.d_pu rfl (fun _ _ => X.sg) rfl ?_
    refine K.d_nil ?_
    (repeat' (first | refine X.rq ?_ | (refine X.rc ?_ ?_ <;> intro hc <;> first | (exfalso; omega) | skip)))
    refine K.AT.drop ?_
    have hpc8 : PagC hb8 (cP x.to (.slice ao8 es7.length ca8)) x.to := ⟨hwp, _, rfl, es7, hsl8, h7l, fun i c z hc hz => (hrow7.2.2 i c z hc hz).le le8⟩
    have hfl2 : (fs ++ [([.int .u32 x.page, .int .i64 x.to.kind, .int .u64 x.to.lsn, .int .u32 x.to.next, .slice ao8 es7.length ca8] : List Value)]).length = fs.length + 1 := by simp
    rw [← hfl2]
    refine K.a_round hKL ⟨hb8, j + 1, a9, cap9, fs ++ [[.int .u32 x.page, .int .i64 x.to.kind, .int .u64 x.to.lsn, .int .u32 x.to.next, .slice ao8 es7.length ca8]]⟩ ⟨hle.trans (le7.trans le8), by dsimp only; omega, ?_⟩ (by repeat (first | exact K.Sub.nil _ | refine K.Sub.cons rfl ?_)) rfl ?_ (by dsimp only; omega)
    · dsimp only
      rw [List.take_add_one, he1]
      exact (hrow.mono fun c x hc => ImgC.le (le7.trans le8) hc).push ⟨hpg, _, rfl, hpc8⟩
    · simp
  · obtain rfl : j = r.images.length := by omega
    rw [List.take_length] at hrow
    clear hsc hi3
    (repeat' (first | refine X.rq ?_ | (refine X.rc ?_ ?_ <;> intro hc <;> first | (exfalso; omega) | skip)))
    refine K.WL.freezeRow (hrow.sz fun c x hc => ImgC.five hc) (fun hb4 le4 hsl4 hcap4 => ?_)
    have hleh4 := hleh.trans le4
    obtain ⟨ao4, ca4, e4⟩ := hsl4.len
    rw [e4] at hsl4 ⊢
    rw [hfl] at hsl4 ⊢
    clear e4
    refine X.sto ?_
    simp only [List.set_cons_zero, List.set_cons_succ, List.eraseIdx_cons_zero, List.eraseIdx_cons_succ, List.cons_append, List.nil_append]
    (repeat' (first | refine X.rq ?_ | (refine X.rc ?_ ?_ <;> intro hc <;> first | (exfalso; omega) | skip)))
    refine K.l_buildSlice (Fx.und rfl) (Fx.sz rfl) rfl (Fx.zr rfl) rfl rfl rfl (cs := []) rfl rfl (fun B25 => ?_)
    refine K.WL.bufOf (s := 4) (m := 0) rfl (Nat.zero_le _) ?_
    (repeat' (first | refine X.rq ?_ | (refine X.rc ?_ ?_ <;> intro hc <;> first | (exfalso; omega) | skip)))
    refine K.l_append_at 0 rfl (Fx.und rfl) (Fx.und rfl) rfl (Fx.sz rfl) (Fx.zr rfl) rfl (Fx.byt rfl) rfl rfl ((hl4.le hleh4).src (fun e he => by
      obtain ⟨x, _, rfl⟩ := List.mem_map.1 he
      exact cL_ones x)) (by rw [List.length_map]; omega) (by rw [List.length_map]; omega) rfl (fun a26 cap26 => ?_)
    simp only [List.set_cons_zero, List.set_cons_succ, List.eraseIdx_cons_zero, List.eraseIdx_cons_succ, List.cons_append, List.nil_append]
    rw [Nat.zero_add]
    refine K.WL.freezeRow (fun e he => by
      obtain ⟨x, _, rfl⟩ := List.mem_map.1 he
      rfl) (fun hb26 le26 hsl26 _ => ?_)
    obtain ⟨al2, cl2, e26⟩ := hsl26.len
    rw [e26] at hsl26 ⊢
    rw [List.length_map] at hsl26 ⊢
    clear e26
    (repeat' (first | refine X.rq ?_ | (refine X.rc ?_ ?_ <;> intro hc <;> first | (exfalso; omega) | skip)))
    refine X.sto ?_
    simp only [List.set_cons_zero, List.set_cons_succ, List.eraseIdx_cons_zero, List.eraseIdx_cons_succ, List.cons_append, List.nil_append]
    (repeat' (first | refine X.rq ?_ | (refine X.rc ?_ ?_ <;> intro hc <;> first | (exfalso; omega) | skip)))
    have hleh5 := hleh4.trans le26
    refine K.l_buildSlice (Fx.und rfl) (Fx.sz rfl) rfl (Fx.zr rfl) rfl rfl rfl (cs := []) rfl rfl (fun B35 => ?_)
    refine K.WL.bufOf (s := 2) (m := 0) rfl (Nat.zero_le _) ?_
    (repeat' (first | refine X.rq ?_ | (refine X.rc ?_ ?_ <;> intro hc <;> first | (exfalso; omega) | skip)))
    refine K.l_append_at 0 rfl (Fx.und rfl) (Fx.und rfl) rfl (Fx.sz rfl) (Fx.zr rfl) rfl (Fx.byt rfl) rfl rfl ((hd2.le hleh5).src (fun e he => by
      obtain ⟨x, _, rfl⟩ := List.mem_map.1 he
      exact cD_ones x)) (by rw [List.length_map]; omega) (by rw [List.length_map]; omega) rfl (fun a36 cap36 => ?_)
    simp only [List.set_cons_zero, List.set_cons_succ, List.eraseIdx_cons_zero, List.eraseIdx_cons_succ, List.cons_append, List.nil_append]
    rw [Nat.zero_add]
    refine K.WL.freezeRow (fun e he => by
      obtain ⟨x, _, rfl⟩ := List.mem_map.1 he
      rfl) (fun hb36 le36 hsl36 _ => ?_)
    obtain ⟨ay2, cy2, e36⟩ := hsl36.len
    rw [e36] at hsl36 ⊢
    rw [List.length_map] at hsl36 ⊢
    clear e36
    (repeat' (first | refine X.rq ?_ | (refine X.rc ?_ ?_ <;> intro hc <;> first | (exfalso; omega) | skip)))
    refine X.sto ?_
    simp only [List.set_cons_zero, List.set_cons_succ, List.eraseIdx_cons_zero, List.eraseIdx_cons_succ, List.cons_append, List.nil_append]
    (repeat' (first | refine X.rq ?_ | (refine X.rc ?_ ?_ <;> intro hc <;> first | (exfalso; omega) | skip)))
    refine K.WL.perm (K.pp [1] rfl) ?_
    simp only [List.set_cons_zero, List.set_cons_succ, List.eraseIdx_cons_zero, List.eraseIdx_cons_succ, List.cons_append, List.nil_append]
    refine X.stw ?_
    simp only [List.set_cons_zero, List.set_cons_succ, List.eraseIdx_cons_zero, List.eraseIdx_cons_succ, List.cons_append, List.nil_append]
    (repeat' (first | refine X.rq ?_ | (refine X.rc ?_ ?_ <;> intro hc <;> first | (exfalso; omega) | skip)))
    skip
    have hlef := hleh5.trans le36
    have hrc : RecC hb36 (cR r (.slice ad2 r.op.data.length cd2) (.slice ao4 r.images.length ca4) (.slice al2 r.lives.length cl2) (.slice ay2 r.dirty.length cy2)) r := recC_of (hw0 ()) (hb2.le ((hle.trans le4).trans (le26.trans le36))) ⟨fs, hsl4.le (le26.trans le36), hrow.1, fun i c x hc hx => ImgC.le (le4.trans (le26.trans le36)) (hrow.2 i c x hc hx)⟩ (hsl26.le le36) hsl36
    refine K.doneC (vs := [.agg (cR r (.slice ad2 r.op.data.length cd2) (.slice ao4 r.images.length ca4) (.slice al2 r.lives.length cl2) (.slice ay2 r.dirty.length cy2)).toArray]) (by first | exact Or.inl rfl | exact Or.inr rfl) (.cell rfl (Fx.agg rfl) (Fx.sz rfl) (K.cels_own (pre := []) (post := []) 0 rfl rfl) .nil) hlef (D := [_, _]) (H' := []) rfl ⟨rfl, _, rfl, hrc⟩
end Go.Proofs.Ytihambjhlhgaeaa.Rc
