/-
 Numbers that rise, an operation that may be recorded: the code. Conditions: each theorem's own.
-/
import Derived.Test.YtijbhgiigddjdaaGreatPC20
set_option linter.unusedVariables false
set_option linter.unusedSimpArgs false
set_option maxRecDepth 10000
set_option maxHeartbeats 16000000
namespace Go.Proofs.YtijbhgiigddjdaaGreat.Rc
open Go.K Pg

def ImgF (c : List Value) (n : Nat) : Prop := ∃ k l x ao m q, c = [.int .u32 n, .int .i64 k, .int .u64 l, .int .u32 x, .slice ao m q]
def LiveF (c : List Value) (n : Nat) : Prop := ∃ a b d, c = [.int .u32 n, .int .u64 a, .int .u64 b, .bool d]
def DirtF (c : List Value) (n : Nat) : Prop := ∃ a, c = [.int .u32 n, .int .u64 a]
theorem rise_step {l : List Nat} {j x last : Nat} (h : l[j]? = some x) : riseQ last (l.drop j) = (decide (last < x) && riseQ x (l.drop (j + 1))) := by
 obtain ⟨hj, rfl⟩ := List.getElem?_eq_some_iff.1 h
 rw [List.drop_eq_getElem_cons hj, riseQ]
theorem NumImg (h : Base) (c : List Value) (n : Nat) (hc : ImgF c n) : TrV Tryz.prog 156 [.agg c.toArray] h [] (.int .u32 n) [] := by
 first | obtain ⟨_, _, _, _, _, _, rfl⟩ := hc | obtain ⟨_, _, _, rfl⟩ := hc | obtain ⟨_, rfl⟩ := hc
 refine K.en Tryz.func156 fun F => ?_
 simp only [List.nil_append]
 (repeat' first | refine X.rq ?_ | refine X.rc ?_ ?_ <;> intro hc <;> try omega)
 refine K.l_box rfl rfl rfl (fun B1 => ?_)
 (repeat' first | refine X.rq ?_ | refine X.rc ?_ ?_ <;> intro hc <;> try omega)
 refine K.AT.drop ?_
 refine K.dl rfl (H' := []) rfl ⟨rfl, rfl, rfl⟩
theorem RiseImg (h : Base) (v : Value) (es : List (List Value)) (nums : List Nat) (hv : SL h 5 v es) (hl : es.length ≤ 9223372036854775807) (hel : es.length = nums.length) (hn : ∀ x ∈ nums, x < 4294967296)
  (hf : ∀ (j : Nat) c n, es[j]? = some c → nums[j]? = some n → ImgF c n) :
  TrV Tryz.prog 155 [v, .func (.func 156) #[] #[]] h [] (.bool (riseQ 0 nums)) [] := by
 obtain ⟨ao, ca, rfl⟩ := hv.len
 refine K.en Tryz.func155 fun F => ?_
 simp only [List.nil_append]
 (repeat' first | refine X.rq ?_ | refine X.rc ?_ ?_ <;> intro hc <;> try omega)
 refine K.c_loop (σ := Nat × Nat) (fun q => [(1, .func (.func 156) #[] #[]), (5, .int .u32 q.2), (8, .slice ao es.length ca), (9, .int .i64 es.length), (10, .int .i64 q.1)]) (fun _ => h) (fun _ => F)
  (fun q => q.1 ≤ es.length ∧ riseQ 0 nums = riseQ q.2 (nums.drop q.1) ∧ q.2 < 4294967296) (fun q => es.length - q.1) (0, 0) ⟨Nat.zero_le _, rfl, by decide⟩ (by repeat (first | exact K.Sub.nil _ | refine K.Sub.cons rfl ?_)) rfl rfl ?_
 rintro ⟨j, last⟩ ⟨hj, hr, hlast⟩ KL hKL
 dsimp only at hj hr hlast ⊢
 by_cases hjl : j < es.length
 ·have hc1 : es[j]? = some es[j] := List.getElem?_eq_getElem hjl
  have hc0 : es[((j : Nat) : Int).toNat]? = some es[j] := by rw [Int.toNat_natCast]; exact hc1
  have hn1 : nums[j]? = some (nums[j]'(by omega)) := List.getElem?_eq_getElem (by omega)
  have hnl := hn _ (List.getElem_mem (l := nums) (n := j) (by omega))
  generalize es[j] = c at hc0 hc1
  generalize nums[j]'(by omega) = x at hn1 hnl
  have hfx := hf j c x hc1 hn1
  have hnum := NumImg h c x hfx
  rw [rise_step hn1] at hr
  first | obtain ⟨_, _, _, _, _, _, rfl⟩ := hfx | obtain ⟨_, _, _, rfl⟩ := hfx | obtain ⟨_, rfl⟩ := hfx
  (repeat' first | refine X.rq ?_ | refine X.rc ?_ ?_ <;> intro hc <;> try omega)
  refine K.s_pureE (K.p_indexL hv (Fx.und rfl) (Fx.sz rfl) rfl rfl (by omega) hc0) rfl ?_
  rintro v2 ⟨b, o, rfl, hcel⟩
  refine K.s_pure (K.p_loadM (Fx.agg rfl) rfl (Cels.up hcel) (Fx.sz rfl) rfl) rfl ?_
  refine K.l_alloc (Fx.zr rfl) rfl rfl (fun B7 => ?_)
  refine X.stw ?_
  simp only [Go.K.nmz]
  (repeat' first | refine X.rq ?_ | refine X.rc ?_ ?_ <;> intro hc <;> try omega)
  refine K.l_callF (caps := []) (f := 156) (Fx.cal rfl) rfl rfl hnum (K.pp [] rfl) rfl ?_
  rintro u h' H' - ⟨rfl, e, rfl⟩
  obtain rfl := e.symm
  simp only [List.nil_append]
  by_cases hxl : x ≤ last
  ·(repeat' first | refine X.rq ?_ | refine X.rc ?_ ?_ <;> intro hc <;> try omega)
   refine K.AT.drop ?_
   refine K.dl rfl (H' := []) rfl ⟨?_, rfl, rfl⟩
   rw [hr, decide_eq_false (by omega)]; rfl
  ·rw [decide_eq_true (by omega), Bool.true_and] at hr
   (repeat' first | refine X.rq ?_ | refine X.rc ?_ ?_ <;> intro hc <;> try omega)
   refine K.l_callF (caps := []) (f := 156) (Fx.cal rfl) rfl rfl hnum (K.pp [] rfl) rfl ?_
   rintro u h' H' - ⟨rfl, e, rfl⟩
   obtain rfl := e.symm
   simp only [List.nil_append]
   (repeat' first | refine X.rq ?_ | refine X.rc ?_ ?_ <;> intro hc <;> try omega)
   refine K.AT.drop ?_
   refine K.a_round hKL (j + 1, x) ⟨by dsimp only; omega, hr, hnl⟩ (by repeat (first | exact K.Sub.nil _ | refine K.Sub.cons rfl ?_)) rfl rfl (by dsimp only; omega)
 ·rw [show nums.drop j = [] from List.drop_of_length_le (by omega)] at hr
  (repeat' first | refine X.rq ?_ | refine X.rc ?_ ?_ <;> intro hc <;> try omega)
  refine K.dl rfl (H' := []) rfl ⟨?_, rfl, rfl⟩
  rw [hr]; rfl
theorem NumLive (h : Base) (c : List Value) (n : Nat) (hc : LiveF c n) : TrV Tryz.prog 158 [.agg c.toArray] h [] (.int .u32 n) [] := by
 first | obtain ⟨_, _, _, _, _, _, rfl⟩ := hc | obtain ⟨_, _, _, rfl⟩ := hc | obtain ⟨_, rfl⟩ := hc
 refine K.en Tryz.func158 fun F => ?_
 simp only [List.nil_append]
 (repeat' first | refine X.rq ?_ | refine X.rc ?_ ?_ <;> intro hc <;> try omega)
 refine K.l_box rfl rfl rfl (fun B1 => ?_)
 (repeat' first | refine X.rq ?_ | refine X.rc ?_ ?_ <;> intro hc <;> try omega)
 refine K.AT.drop ?_
 refine K.dl rfl (H' := []) rfl ⟨rfl, rfl, rfl⟩
theorem RiseLive (h : Base) (v : Value) (es : List (List Value)) (nums : List Nat) (hv : SL h 4 v es) (hl : es.length ≤ 9223372036854775807) (hel : es.length = nums.length) (hn : ∀ x ∈ nums, x < 4294967296)
  (hf : ∀ (j : Nat) c n, es[j]? = some c → nums[j]? = some n → LiveF c n) :
  TrV Tryz.prog 157 [v, .func (.func 158) #[] #[]] h [] (.bool (riseQ 0 nums)) [] := by
 obtain ⟨ao, ca, rfl⟩ := hv.len
 refine K.en Tryz.func157 fun F => ?_
 simp only [List.nil_append]
 (repeat' first | refine X.rq ?_ | refine X.rc ?_ ?_ <;> intro hc <;> try omega)
 refine K.c_loop (σ := Nat × Nat) (fun q => [(1, .func (.func 158) #[] #[]), (5, .int .u32 q.2), (8, .slice ao es.length ca), (9, .int .i64 es.length), (10, .int .i64 q.1)]) (fun _ => h) (fun _ => F)
  (fun q => q.1 ≤ es.length ∧ riseQ 0 nums = riseQ q.2 (nums.drop q.1) ∧ q.2 < 4294967296) (fun q => es.length - q.1) (0, 0) ⟨Nat.zero_le _, rfl, by decide⟩ (by repeat (first | exact K.Sub.nil _ | refine K.Sub.cons rfl ?_)) rfl rfl ?_
 rintro ⟨j, last⟩ ⟨hj, hr, hlast⟩ KL hKL
 dsimp only at hj hr hlast ⊢
 by_cases hjl : j < es.length
 ·have hc1 : es[j]? = some es[j] := List.getElem?_eq_getElem hjl
  have hc0 : es[((j : Nat) : Int).toNat]? = some es[j] := by rw [Int.toNat_natCast]; exact hc1
  have hn1 : nums[j]? = some (nums[j]'(by omega)) := List.getElem?_eq_getElem (by omega)
  have hnl := hn _ (List.getElem_mem (l := nums) (n := j) (by omega))
  generalize es[j] = c at hc0 hc1
  generalize nums[j]'(by omega) = x at hn1 hnl
  have hfx := hf j c x hc1 hn1
  have hnum := NumLive h c x hfx
  rw [rise_step hn1] at hr
  first | obtain ⟨_, _, _, _, _, _, rfl⟩ := hfx | obtain ⟨_, _, _, rfl⟩ := hfx | obtain ⟨_, rfl⟩ := hfx
  (repeat' first | refine X.rq ?_ | refine X.rc ?_ ?_ <;> intro hc <;> try omega)
  refine K.s_pureE (K.p_indexL hv (Fx.und rfl) (Fx.sz rfl) rfl rfl (by omega) hc0) rfl ?_
  rintro v2 ⟨b, o, rfl, hcel⟩
  refine K.s_pure (K.p_loadM (Fx.agg rfl) rfl (Cels.up hcel) (Fx.sz rfl) rfl) rfl ?_
  refine K.l_alloc (Fx.zr rfl) rfl rfl (fun B7 => ?_)
  refine X.stw ?_
  simp only [Go.K.nmz]
  (repeat' first | refine X.rq ?_ | refine X.rc ?_ ?_ <;> intro hc <;> try omega)
  refine K.l_callF (caps := []) (f := 158) (Fx.cal rfl) rfl rfl hnum (K.pp [] rfl) rfl ?_
  rintro u h' H' - ⟨rfl, e, rfl⟩
  obtain rfl := e.symm
  simp only [List.nil_append]
  by_cases hxl : x ≤ last
  ·(repeat' first | refine X.rq ?_ | refine X.rc ?_ ?_ <;> intro hc <;> try omega)
   refine K.AT.drop ?_
   refine K.dl rfl (H' := []) rfl ⟨?_, rfl, rfl⟩
   rw [hr, decide_eq_false (by omega)]; rfl
  ·rw [decide_eq_true (by omega), Bool.true_and] at hr
   (repeat' first | refine X.rq ?_ | refine X.rc ?_ ?_ <;> intro hc <;> try omega)
   refine K.l_callF (caps := []) (f := 158) (Fx.cal rfl) rfl rfl hnum (K.pp [] rfl) rfl ?_
   rintro u h' H' - ⟨rfl, e, rfl⟩
   obtain rfl := e.symm
   simp only [List.nil_append]
   (repeat' first | refine X.rq ?_ | refine X.rc ?_ ?_ <;> intro hc <;> try omega)
   refine K.AT.drop ?_
   refine K.a_round hKL (j + 1, x) ⟨by dsimp only; omega, hr, hnl⟩ (by repeat (first | exact K.Sub.nil _ | refine K.Sub.cons rfl ?_)) rfl rfl (by dsimp only; omega)
 ·rw [show nums.drop j = [] from List.drop_of_length_le (by omega)] at hr
  (repeat' first | refine X.rq ?_ | refine X.rc ?_ ?_ <;> intro hc <;> try omega)
  refine K.dl rfl (H' := []) rfl ⟨?_, rfl, rfl⟩
  rw [hr]; rfl
theorem NumDirt (h : Base) (c : List Value) (n : Nat) (hc : DirtF c n) : TrV Tryz.prog 160 [.agg c.toArray] h [] (.int .u32 n) [] := by
 first | obtain ⟨_, _, _, _, _, _, rfl⟩ := hc | obtain ⟨_, _, _, rfl⟩ := hc | obtain ⟨_, rfl⟩ := hc
 refine K.en Tryz.func160 fun F => ?_
 simp only [List.nil_append]
 (repeat' first | refine X.rq ?_ | refine X.rc ?_ ?_ <;> intro hc <;> try omega)
 refine K.l_box rfl rfl rfl (fun B1 => ?_)
 (repeat' first | refine X.rq ?_ | refine X.rc ?_ ?_ <;> intro hc <;> try omega)
 refine K.AT.drop ?_
 refine K.dl rfl (H' := []) rfl ⟨rfl, rfl, rfl⟩
theorem RiseDirt (h : Base) (v : Value) (es : List (List Value)) (nums : List Nat) (hv : SL h 2 v es) (hl : es.length ≤ 9223372036854775807) (hel : es.length = nums.length) (hn : ∀ x ∈ nums, x < 4294967296)
  (hf : ∀ (j : Nat) c n, es[j]? = some c → nums[j]? = some n → DirtF c n) :
  TrV Tryz.prog 159 [v, .func (.func 160) #[] #[]] h [] (.bool (riseQ 0 nums)) [] := by
 obtain ⟨ao, ca, rfl⟩ := hv.len
 refine K.en Tryz.func159 fun F => ?_
 simp only [List.nil_append]
 (repeat' first | refine X.rq ?_ | refine X.rc ?_ ?_ <;> intro hc <;> try omega)
 refine K.c_loop (σ := Nat × Nat) (fun q => [(1, .func (.func 160) #[] #[]), (5, .int .u32 q.2), (8, .slice ao es.length ca), (9, .int .i64 es.length), (10, .int .i64 q.1)]) (fun _ => h) (fun _ => F)
  (fun q => q.1 ≤ es.length ∧ riseQ 0 nums = riseQ q.2 (nums.drop q.1) ∧ q.2 < 4294967296) (fun q => es.length - q.1) (0, 0) ⟨Nat.zero_le _, rfl, by decide⟩ (by repeat (first | exact K.Sub.nil _ | refine K.Sub.cons rfl ?_)) rfl rfl ?_
 rintro ⟨j, last⟩ ⟨hj, hr, hlast⟩ KL hKL
 dsimp only at hj hr hlast ⊢
 by_cases hjl : j < es.length
 ·have hc1 : es[j]? = some es[j] := List.getElem?_eq_getElem hjl
  have hc0 : es[((j : Nat) : Int).toNat]? = some es[j] := by rw [Int.toNat_natCast]; exact hc1
  have hn1 : nums[j]? = some (nums[j]'(by omega)) := List.getElem?_eq_getElem (by omega)
  have hnl := hn _ (List.getElem_mem (l := nums) (n := j) (by omega))
  generalize es[j] = c at hc0 hc1
  generalize nums[j]'(by omega) = x at hn1 hnl
  have hfx := hf j c x hc1 hn1
  have hnum := NumDirt h c x hfx
  rw [rise_step hn1] at hr
  first | obtain ⟨_, _, _, _, _, _, rfl⟩ := hfx | obtain ⟨_, _, _, rfl⟩ := hfx | obtain ⟨_, rfl⟩ := hfx
  (repeat' first | refine X.rq ?_ | refine X.rc ?_ ?_ <;> intro hc <;> try omega)
  refine K.s_pureE (K.p_indexL hv (Fx.und rfl) (Fx.sz rfl) rfl rfl (by omega) hc0) rfl ?_
  rintro v2 ⟨b, o, rfl, hcel⟩
  refine K.s_pure (K.p_loadM (Fx.agg rfl) rfl (Cels.up hcel) (Fx.sz rfl) rfl) rfl ?_
  refine K.l_alloc (Fx.zr rfl) rfl rfl (fun B7 => ?_)
  refine X.stw ?_
  simp only [Go.K.nmz]
  (repeat' first | refine X.rq ?_ | refine X.rc ?_ ?_ <;> intro hc <;> try omega)
  refine K.l_callF (caps := []) (f := 160) (Fx.cal rfl) rfl rfl hnum (K.pp [] rfl) rfl ?_
  rintro u h' H' - ⟨rfl, e, rfl⟩
  obtain rfl := e.symm
  simp only [List.nil_append]
  by_cases hxl : x ≤ last
  ·(repeat' first | refine X.rq ?_ | refine X.rc ?_ ?_ <;> intro hc <;> try omega)
   refine K.AT.drop ?_
   refine K.dl rfl (H' := []) rfl ⟨?_, rfl, rfl⟩
   rw [hr, decide_eq_false (by omega)]; rfl
  ·rw [decide_eq_true (by omega), Bool.true_and] at hr
   (repeat' first | refine X.rq ?_ | refine X.rc ?_ ?_ <;> intro hc <;> try omega)
   refine K.l_callF (caps := []) (f := 160) (Fx.cal rfl) rfl rfl hnum (K.pp [] rfl) rfl ?_
   rintro u h' H' - ⟨rfl, e, rfl⟩
   obtain rfl := e.symm
   simp only [List.nil_append]
   (repeat' first | refine X.rq ?_ | refine X.rc ?_ ?_ <;> intro hc <;> try omega)
   refine K.AT.drop ?_
   refine K.a_round hKL (j + 1, x) ⟨by dsimp only; omega, hr, hnl⟩ (by repeat (first | exact K.Sub.nil _ | refine K.Sub.cons rfl ?_)) rfl rfl (by dsimp only; omega)
 ·rw [show nums.drop j = [] from List.drop_of_length_le (by omega)] at hr
  (repeat' first | refine X.rq ?_ | refine X.rc ?_ ?_ <;> intro hc <;> try omega)
  refine K.dl rfl (H' := []) rfl ⟨?_, rfl, rfl⟩
  rw [hr]; rfl
theorem PDoes (h : Base) (cs : List Value) (r : Recd) (hx : RecC h cs r) (hk : r.kind = 2 ∨ r.kind = 3) : TrV Tryz.prog 154 [.agg cs.toArray] h [] (.bool (decide (doesP r))) [] := by
  obtain ⟨hw, ad, cd, iv, lv, yv, rfl, hb, ⟨es, h1, h2, h3⟩, h4, h5⟩ := hx
  obtain ⟨ai, ci, rfl⟩ := h1.len
  obtain ⟨al, cl, rfl⟩ := h4.len
  obtain ⟨ay, cy, rfl⟩ := h5.len
  have ho : OpC h (cO r.op (.slice ad r.op.data.length cd)) r.op := ⟨hw.op, ad, cd, rfl, hb⟩
  refine K.en Tryz.func154 fun F => ?_
  simp only [List.nil_append]
  (repeat' first | refine X.rq ?_ | refine X.rc ?_ ?_ <;> intro hc <;> try omega)
  refine K.l_box rfl rfl rfl (fun B1 => ?_)
  (repeat' first | refine X.rq ?_ | refine X.rc ?_ ?_ <;> intro hc <;> try omega)
  have hright := fun k => ORight h k _ r.op ho
  have hwo := hw.op
  have h64 := hwo.kind
  have hs64 := hwo.slot
  unfold in64 at h64 hs64
  refine X.draw ([blk B1 92 (cR r (.slice ad r.op.data.length cd) (.slice ai es.length ci) (.slice al (r.lives.map cL).length cl) (.slice ay (r.dirty.map cD).length cy))]) [] (.pu 0 (.pu 1 (.st 2 (.pu 3 (.pu 4 (.pu 5 (.pu 6 (.pu 10 (.st 7 (.pu 8 (.pu 9 (.pu 11 .nil)))))))))))) ?_
  all_goals (refine X.u_fa ?_)
  all_goals (refine X.u_fa ?_)
  all_goals (refine X.s_ld ?_)
  all_goals (refine X.u_beql ?_)
  all_goals (refine X.u_mv ?_)
  all_goals try (refine K.d_splitD (s := 9) rfl (fun hc => ?_) (fun hc => ?_) <;> first | (exfalso; omega) | skip)
  all_goals (refine X.g_fa ?_)
  all_goals (refine X.g_fa ?_)
  all_goals (refine X.u_sg ?_)
  all_goals (refine X.h_ld ?_)
  all_goals (refine X.g_beql ?_)
  all_goals (refine X.u_pk ?_)
  all_goals (refine X.u_sg ?_)
  all_goals refine K.d_nil ?_
  all_goals (repeat' first | refine X.rq ?_ | refine X.rc ?_ ?_ <;> intro hc <;> try omega)
  all_goals first
    | (refine K.s_pure (K.p_loadM (Fx.agg rfl) rfl (K.cels_own (pre := [.int .i64 r.kind, .int .u64 r.lsn, .int .u32 r.txn, .int .u64 r.prev, .int .u64 r.undo, .int .u32 r.page, .int .u32 r.root]) (cs := cO r.op (.slice ad r.op.data.length cd)) (post := [.slice ai es.length ci, .slice al (r.lives.map cL).length cl, .slice ay (r.dirty.map cD).length cy, .int .u32 r.next]) 0 rfl rfl) (Fx.sz rfl) rfl) rfl ?_
       refine K.s_take rfl rfl ?_
       refine K.l_callV (Fx.cal rfl) rfl (hright _) (K.pp [] rfl) rfl rfl ?_
       simp only [List.nil_append]
       (repeat' first | refine X.rq ?_ | refine X.rc ?_ ?_ <;> intro hc <;> try omega))
    | skip
  all_goals
    refine K.AT.drop ?_
    refine K.dl rfl (H' := []) rfl ⟨?_, rfl, rfl⟩
    refine congrArg Value.bool ?_
  all_goals skip
  all_goals clear hright hwo ho hb h1 h2 h3 h4 h5 h64 hs64 hw
  all_goals first
    | (refine (decide_eq_false fun hd => ?_).symm
       obtain ⟨d1, d2, d3, d4, d5⟩ := hd
       first | omega | (simp_all; done) | (simp_all; omega))
    | (refine decide_eq_decide.2 ⟨fun hd => ?_, fun hd => hd.2.2.2.2⟩
       unfold doesP
       first | (simp_all; done) | (simp_all; omega))
end Go.Proofs.YtijbhgiigddjdaaGreat.Rc
