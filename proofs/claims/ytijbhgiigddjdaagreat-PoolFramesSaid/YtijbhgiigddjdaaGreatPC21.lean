/-
 What a record's kind uses; whether the rest is zero. Conditions: each theorem's own.
-/
import Derived.Test.YtijbhgiigddjdaaGreatPC20
set_option linter.unusedVariables false
set_option linter.unusedSimpArgs false
set_option maxRecDepth 10000
set_option maxHeartbeats 16000000
namespace Go.Proofs.YtijbhgiigddjdaaGreat.Rc
open Go.K Pg

theorem kinds (k : Int) : k = 1 ∨ k = 2 ∨ k = 3 ∨ k = 4 ∨ k = 5 ∨ k = 6 ∨ k = 7 ∨ k = 8 ∨ (k < 1 ∨ 8 < k) := by omega
def sl (c : Prop) [Decidable c] (a : Option Addr) (n m : Nat) : Value := .slice (if c then a else none) (if c then n else 0) (if c then m else 0)
def usedV (r : Recd) (ad ai al ay : Option Addr) (nd cd ni ci nl cl ny cy : Nat) : List Value :=
 cR (usedQ r) (sl (r.kind = 2 ∨ r.kind = 3) ad nd cd) (sl (r.kind = 4) ai ni ci) (sl (r.kind = 8) al nl cl) (sl (r.kind = 8) ay ny cy)
theorem PUsed (h : Base) (r : Recd) (ad ai al ay : Option Addr) (nd cd ni ci nl cl ny cy : Nat) :
  TrV Tryz.prog 164 [.agg (cR r (.slice ad nd cd) (.slice ai ni ci) (.slice al nl cl) (.slice ay ny cy)).toArray] h [] (.agg (usedV r ad ai al ay nd cd ni ci nl cl ny cy).toArray) [] := by
 unfold usedV usedQ hasT sl cR
 dsimp only
 generalize r.kind = kind
 generalize r.lsn = lsn
 generalize r.txn = txn
 generalize r.prev = prev
 generalize r.undo = undo
 generalize r.page = page
 generalize r.root = root
 generalize r.op = op
 generalize r.next = next
 generalize r.images = images
 generalize r.lives = lives
 generalize r.dirty = dirty
 refine K.en Tryz.func164 fun F => ?_
 simp only [List.nil_append]
 have hk := kinds kind
 rcases hk with rfl | rfl | rfl | rfl | rfl | rfl | rfl | rfl | hk
 ·(repeat' first | refine X.rq ?_ | refine X.rc ?_ ?_ <;> intro hc <;> try omega)
  refine K.l_box rfl rfl rfl (fun B1 => ?_)
  refine K.l_alloc (Fx.zr rfl) rfl rfl (fun B2 => ?_)
  (repeat' first | refine X.rq ?_ | refine X.rc ?_ ?_ <;> intro hc <;> try omega)
  refine K.l_alloc (Fx.zr rfl) rfl rfl (fun B3 => ?_)
  refine X.stw ?_
  simp only [Go.K.nmz]
  (repeat' first | refine X.rq ?_ | refine X.rc ?_ ?_ <;> intro hc <;> try omega)
  refine X.sto ?_
  simp only [Go.K.nmz]
  (repeat' first | refine X.rq ?_ | refine X.rc ?_ ?_ <;> intro hc <;> try omega)
  refine K.WL.perm (K.pp [1] rfl) ?_
  simp only [Go.K.nmz]
  refine X.stw ?_
  simp only [Go.K.nmz]
  (repeat' first | refine X.rq ?_ | refine X.rc ?_ ?_ <;> intro hc <;> try omega)
  refine K.dc (.cell rfl (Fx.agg rfl) (Fx.sz rfl) (by first | exact K.cels_own (pre := []) (post := []) 0 rfl rfl | exact K.cels_own (pre := []) (post := []) 1 rfl rfl | exact K.cels_own (pre := []) (post := []) 2 rfl rfl | exact K.cels_own (pre := []) (post := []) 3 rfl rfl | exact K.cels_own (pre := []) (post := []) 4 rfl rfl | exact K.cels_own (pre := []) (post := []) 5 rfl rfl) .nil) (by first | exact K.Base.le.refl _ | assumption) (vs := [.agg ([.int .i64 1, .int .u64 lsn, .int .u32 txn, .int .u64 0, .int .u64 0, .int .u32 0, .int .u32 0, .int .i64 0, .int .i64 0, .int .u32 0, .slice none 0 0, .slice none 0 0, .slice none 0 0, .slice none 0 0, .int .u32 0] : List Value).toArray]) (D := [_, _, _]) (H' := []) rfl ⟨rfl, rfl, rfl⟩
 ·(repeat' first | refine X.rq ?_ | refine X.rc ?_ ?_ <;> intro hc <;> try omega)
  refine K.l_box rfl rfl rfl (fun B1 => ?_)
  refine K.l_alloc (Fx.zr rfl) rfl rfl (fun B2 => ?_)
  (repeat' first | refine X.rq ?_ | refine X.rc ?_ ?_ <;> intro hc <;> try omega)
  refine K.l_alloc (Fx.zr rfl) rfl rfl (fun B3 => ?_)
  refine X.stw ?_
  simp only [Go.K.nmz]
  (repeat' first | refine X.rq ?_ | refine X.rc ?_ ?_ <;> intro hc <;> try omega)
  refine X.draw ([blk B1 92 [.int .i64 2, .int .u64 lsn, .int .u32 txn, .int .u64 prev, .int .u64 undo, .int .u32 page, .int .u32 root, .int .i64 op.kind, .int .i64 op.slot, .int .u32 op.txn, .slice ad nd cd, .slice ai ni ci, .slice al nl cl, .slice ay ny cy, .int .u32 next]]) [] (.pu 0 (.pu 2 (.pu 4 (.st 1 (.pu 6 (.st 3 (.st 5 (.on 7 (.pu 8 (.on 9 (.pu 10 (.on 11 .nil)))))))))))) ?_
  refine X.u_fa ?_
  refine X.u_fa ?_
  refine X.u_fa ?_
  refine X.s_ld ?_
  refine X.u_fa ?_
  refine X.s_ld ?_
  refine K.d_st rfl (K.p_loadM (Fx.agg rfl) rfl (K.cels_own (pre := [.int .i64 2, .int .u64 lsn, .int .u32 txn, .int .u64 prev, .int .u64 undo, .int .u32 page, .int .u32 root]) (cs := [.int .i64 op.kind, .int .i64 op.slot, .int .u32 op.txn, .slice ad nd cd]) (post := [.slice ai ni ci, .slice al nl cl, .slice ay ny cy, .int .u32 next]) 0 rfl rfl) (Fx.sz rfl) rfl) rfl ?_
  refine K.d_on rfl (fun KK hKK => ?_)
  refine X.sto ?_
  refine K.l_nil ?_
  refine X.onE hKK ?_
  refine X.u_fa ?_
  refine K.d_on rfl (fun KK hKK => ?_)
  refine X.sto ?_
  refine K.l_nil ?_
  refine X.onE hKK ?_
  refine X.u_fa ?_
  refine K.d_on rfl (fun KK hKK => ?_)
  refine K.l_storeN (pre := [.int .i64 2, .int .u64 lsn, .int .u32 0, .int .u64 0, .int .u64 0, .int .u32 page, .int .u32 root]) (cs := [.int .i64 0, .int .i64 0, .int .u32 0, .slice none 0 0]) (post := [.slice none 0 0, .slice none 0 0, .slice none 0 0, .int .u32 0]) (us := [.int .i64 op.kind, .int .i64 op.slot, .int .u32 op.txn, .slice ad nd cd]) (Fx.sz rfl) rfl rfl rfl rfl rfl (K.Free.zero _) ?_
  simp only [Go.K.nmz]
  refine K.l_nil ?_
  refine X.onE hKK ?_
  refine K.d_nil ?_
  (repeat' first | refine X.rq ?_ | refine X.rc ?_ ?_ <;> intro hc <;> try omega)
  refine X.sto ?_
  simp only [Go.K.nmz]
  (repeat' first | refine X.rq ?_ | refine X.rc ?_ ?_ <;> intro hc <;> try omega)
  refine X.sto ?_
  simp only [Go.K.nmz]
  (repeat' first | refine X.rq ?_ | refine X.rc ?_ ?_ <;> intro hc <;> try omega)
  refine K.WL.perm (K.pp [1] rfl) ?_
  simp only [Go.K.nmz]
  refine X.stw ?_
  simp only [Go.K.nmz]
  (repeat' first | refine X.rq ?_ | refine X.rc ?_ ?_ <;> intro hc <;> try omega)
  refine K.dc (.cell rfl (Fx.agg rfl) (Fx.sz rfl) (by first | exact K.cels_own (pre := []) (post := []) 0 rfl rfl | exact K.cels_own (pre := []) (post := []) 1 rfl rfl | exact K.cels_own (pre := []) (post := []) 2 rfl rfl | exact K.cels_own (pre := []) (post := []) 3 rfl rfl | exact K.cels_own (pre := []) (post := []) 4 rfl rfl | exact K.cels_own (pre := []) (post := []) 5 rfl rfl) .nil) (by first | exact K.Base.le.refl _ | assumption) (vs := [.agg ([.int .i64 2, .int .u64 lsn, .int .u32 txn, .int .u64 prev, .int .u64 0, .int .u32 page, .int .u32 root, .int .i64 op.kind, .int .i64 op.slot, .int .u32 op.txn, .slice ad nd cd, .slice none 0 0, .slice none 0 0, .slice none 0 0, .int .u32 0] : List Value).toArray]) (D := [_, _, _]) (H' := []) rfl ⟨rfl, rfl, rfl⟩
 ·(repeat' first | refine X.rq ?_ | refine X.rc ?_ ?_ <;> intro hc <;> try omega)
  refine K.l_box rfl rfl rfl (fun B1 => ?_)
  refine K.l_alloc (Fx.zr rfl) rfl rfl (fun B2 => ?_)
  (repeat' first | refine X.rq ?_ | refine X.rc ?_ ?_ <;> intro hc <;> try omega)
  refine K.l_alloc (Fx.zr rfl) rfl rfl (fun B3 => ?_)
  refine X.stw ?_
  simp only [Go.K.nmz]
  (repeat' first | refine X.rq ?_ | refine X.rc ?_ ?_ <;> intro hc <;> try omega)
  refine X.sto ?_
  simp only [Go.K.nmz]
  (repeat' first | refine X.rq ?_ | refine X.rc ?_ ?_ <;> intro hc <;> try omega)
  refine X.draw ([blk B1 92 [.int .i64 3, .int .u64 lsn, .int .u32 txn, .int .u64 prev, .int .u64 undo, .int .u32 page, .int .u32 root, .int .i64 op.kind, .int .i64 op.slot, .int .u32 op.txn, .slice ad nd cd, .slice ai ni ci, .slice al nl cl, .slice ay ny cy, .int .u32 next]]) [] (.pu 0 (.pu 2 (.pu 4 (.st 1 (.pu 6 (.st 3 (.st 5 (.on 7 (.pu 8 (.on 9 (.pu 10 (.on 11 .nil)))))))))))) ?_
  refine X.u_fa ?_
  refine X.u_fa ?_
  refine X.u_fa ?_
  refine X.s_ld ?_
  refine X.u_fa ?_
  refine X.s_ld ?_
  refine K.d_st rfl (K.p_loadM (Fx.agg rfl) rfl (K.cels_own (pre := [.int .i64 3, .int .u64 lsn, .int .u32 txn, .int .u64 prev, .int .u64 undo, .int .u32 page, .int .u32 root]) (cs := [.int .i64 op.kind, .int .i64 op.slot, .int .u32 op.txn, .slice ad nd cd]) (post := [.slice ai ni ci, .slice al nl cl, .slice ay ny cy, .int .u32 next]) 0 rfl rfl) (Fx.sz rfl) rfl) rfl ?_
  refine K.d_on rfl (fun KK hKK => ?_)
  refine X.sto ?_
  refine K.l_nil ?_
  refine X.onE hKK ?_
  refine X.u_fa ?_
  refine K.d_on rfl (fun KK hKK => ?_)
  refine X.sto ?_
  refine K.l_nil ?_
  refine X.onE hKK ?_
  refine X.u_fa ?_
  refine K.d_on rfl (fun KK hKK => ?_)
  refine K.l_storeN (pre := [.int .i64 3, .int .u64 lsn, .int .u32 0, .int .u64 0, .int .u64 undo, .int .u32 page, .int .u32 root]) (cs := [.int .i64 0, .int .i64 0, .int .u32 0, .slice none 0 0]) (post := [.slice none 0 0, .slice none 0 0, .slice none 0 0, .int .u32 0]) (us := [.int .i64 op.kind, .int .i64 op.slot, .int .u32 op.txn, .slice ad nd cd]) (Fx.sz rfl) rfl rfl rfl rfl rfl (K.Free.zero _) ?_
  simp only [Go.K.nmz]
  refine K.l_nil ?_
  refine X.onE hKK ?_
  refine K.d_nil ?_
  (repeat' first | refine X.rq ?_ | refine X.rc ?_ ?_ <;> intro hc <;> try omega)
  refine X.sto ?_
  simp only [Go.K.nmz]
  (repeat' first | refine X.rq ?_ | refine X.rc ?_ ?_ <;> intro hc <;> try omega)
  refine X.sto ?_
  simp only [Go.K.nmz]
  (repeat' first | refine X.rq ?_ | refine X.rc ?_ ?_ <;> intro hc <;> try omega)
  refine K.WL.perm (K.pp [1] rfl) ?_
  simp only [Go.K.nmz]
  refine X.stw ?_
  simp only [Go.K.nmz]
  (repeat' first | refine X.rq ?_ | refine X.rc ?_ ?_ <;> intro hc <;> try omega)
  refine K.dc (.cell rfl (Fx.agg rfl) (Fx.sz rfl) (by first | exact K.cels_own (pre := []) (post := []) 0 rfl rfl | exact K.cels_own (pre := []) (post := []) 1 rfl rfl | exact K.cels_own (pre := []) (post := []) 2 rfl rfl | exact K.cels_own (pre := []) (post := []) 3 rfl rfl | exact K.cels_own (pre := []) (post := []) 4 rfl rfl | exact K.cels_own (pre := []) (post := []) 5 rfl rfl) .nil) (by first | exact K.Base.le.refl _ | assumption) (vs := [.agg ([.int .i64 3, .int .u64 lsn, .int .u32 txn, .int .u64 prev, .int .u64 undo, .int .u32 page, .int .u32 root, .int .i64 op.kind, .int .i64 op.slot, .int .u32 op.txn, .slice ad nd cd, .slice none 0 0, .slice none 0 0, .slice none 0 0, .int .u32 0] : List Value).toArray]) (D := [_, _, _]) (H' := []) rfl ⟨rfl, rfl, rfl⟩
 ·(repeat' first | refine X.rq ?_ | refine X.rc ?_ ?_ <;> intro hc <;> try omega)
  refine K.l_box rfl rfl rfl (fun B1 => ?_)
  refine K.l_alloc (Fx.zr rfl) rfl rfl (fun B2 => ?_)
  (repeat' first | refine X.rq ?_ | refine X.rc ?_ ?_ <;> intro hc <;> try omega)
  refine K.l_alloc (Fx.zr rfl) rfl rfl (fun B3 => ?_)
  refine X.stw ?_
  simp only [Go.K.nmz]
  (repeat' first | refine X.rq ?_ | refine X.rc ?_ ?_ <;> intro hc <;> try omega)
  refine X.sto ?_
  simp only [Go.K.nmz]
  (repeat' first | refine X.rq ?_ | refine X.rc ?_ ?_ <;> intro hc <;> try omega)
  refine K.WL.perm (K.pp [1] rfl) ?_
  simp only [Go.K.nmz]
  refine X.stw ?_
  simp only [Go.K.nmz]
  (repeat' first | refine X.rq ?_ | refine X.rc ?_ ?_ <;> intro hc <;> try omega)
  refine K.dc (.cell rfl (Fx.agg rfl) (Fx.sz rfl) (by first | exact K.cels_own (pre := []) (post := []) 0 rfl rfl | exact K.cels_own (pre := []) (post := []) 1 rfl rfl | exact K.cels_own (pre := []) (post := []) 2 rfl rfl | exact K.cels_own (pre := []) (post := []) 3 rfl rfl | exact K.cels_own (pre := []) (post := []) 4 rfl rfl | exact K.cels_own (pre := []) (post := []) 5 rfl rfl) .nil) (by first | exact K.Base.le.refl _ | assumption) (vs := [.agg ([.int .i64 4, .int .u64 lsn, .int .u32 0, .int .u64 0, .int .u64 0, .int .u32 0, .int .u32 0, .int .i64 0, .int .i64 0, .int .u32 0, .slice none 0 0, .slice ai ni ci, .slice none 0 0, .slice none 0 0, .int .u32 0] : List Value).toArray]) (D := [_, _, _]) (H' := []) rfl ⟨rfl, rfl, rfl⟩
 ·(repeat' first | refine X.rq ?_ | refine X.rc ?_ ?_ <;> intro hc <;> try omega)
  refine K.l_box rfl rfl rfl (fun B1 => ?_)
  refine K.l_alloc (Fx.zr rfl) rfl rfl (fun B2 => ?_)
  (repeat' first | refine X.rq ?_ | refine X.rc ?_ ?_ <;> intro hc <;> try omega)
  refine K.l_alloc (Fx.zr rfl) rfl rfl (fun B3 => ?_)
  refine X.stw ?_
  simp only [Go.K.nmz]
  (repeat' first | refine X.rq ?_ | refine X.rc ?_ ?_ <;> intro hc <;> try omega)
  refine X.sto ?_
  simp only [Go.K.nmz]
  (repeat' first | refine X.rq ?_ | refine X.rc ?_ ?_ <;> intro hc <;> try omega)
  refine X.sto ?_
  simp only [Go.K.nmz]
  (repeat' first | refine X.rq ?_ | refine X.rc ?_ ?_ <;> intro hc <;> try omega)
  refine K.WL.perm (K.pp [1] rfl) ?_
  simp only [Go.K.nmz]
  refine X.stw ?_
  simp only [Go.K.nmz]
  (repeat' first | refine X.rq ?_ | refine X.rc ?_ ?_ <;> intro hc <;> try omega)
  refine K.dc (.cell rfl (Fx.agg rfl) (Fx.sz rfl) (by first | exact K.cels_own (pre := []) (post := []) 0 rfl rfl | exact K.cels_own (pre := []) (post := []) 1 rfl rfl | exact K.cels_own (pre := []) (post := []) 2 rfl rfl | exact K.cels_own (pre := []) (post := []) 3 rfl rfl | exact K.cels_own (pre := []) (post := []) 4 rfl rfl | exact K.cels_own (pre := []) (post := []) 5 rfl rfl) .nil) (by first | exact K.Base.le.refl _ | assumption) (vs := [.agg ([.int .i64 5, .int .u64 lsn, .int .u32 txn, .int .u64 prev, .int .u64 0, .int .u32 0, .int .u32 0, .int .i64 0, .int .i64 0, .int .u32 0, .slice none 0 0, .slice none 0 0, .slice none 0 0, .slice none 0 0, .int .u32 0] : List Value).toArray]) (D := [_, _, _]) (H' := []) rfl ⟨rfl, rfl, rfl⟩
 ·(repeat' first | refine X.rq ?_ | refine X.rc ?_ ?_ <;> intro hc <;> try omega)
  refine K.l_box rfl rfl rfl (fun B1 => ?_)
  refine K.l_alloc (Fx.zr rfl) rfl rfl (fun B2 => ?_)
  (repeat' first | refine X.rq ?_ | refine X.rc ?_ ?_ <;> intro hc <;> try omega)
  refine K.l_alloc (Fx.zr rfl) rfl rfl (fun B3 => ?_)
  refine X.stw ?_
  simp only [Go.K.nmz]
  (repeat' first | refine X.rq ?_ | refine X.rc ?_ ?_ <;> intro hc <;> try omega)
  refine X.sto ?_
  simp only [Go.K.nmz]
  (repeat' first | refine X.rq ?_ | refine X.rc ?_ ?_ <;> intro hc <;> try omega)
  refine X.sto ?_
  simp only [Go.K.nmz]
  (repeat' first | refine X.rq ?_ | refine X.rc ?_ ?_ <;> intro hc <;> try omega)
  refine K.WL.perm (K.pp [1] rfl) ?_
  simp only [Go.K.nmz]
  refine X.stw ?_
  simp only [Go.K.nmz]
  (repeat' first | refine X.rq ?_ | refine X.rc ?_ ?_ <;> intro hc <;> try omega)
  refine K.dc (.cell rfl (Fx.agg rfl) (Fx.sz rfl) (by first | exact K.cels_own (pre := []) (post := []) 0 rfl rfl | exact K.cels_own (pre := []) (post := []) 1 rfl rfl | exact K.cels_own (pre := []) (post := []) 2 rfl rfl | exact K.cels_own (pre := []) (post := []) 3 rfl rfl | exact K.cels_own (pre := []) (post := []) 4 rfl rfl | exact K.cels_own (pre := []) (post := []) 5 rfl rfl) .nil) (by first | exact K.Base.le.refl _ | assumption) (vs := [.agg ([.int .i64 6, .int .u64 lsn, .int .u32 txn, .int .u64 prev, .int .u64 0, .int .u32 0, .int .u32 0, .int .i64 0, .int .i64 0, .int .u32 0, .slice none 0 0, .slice none 0 0, .slice none 0 0, .slice none 0 0, .int .u32 0] : List Value).toArray]) (D := [_, _, _]) (H' := []) rfl ⟨rfl, rfl, rfl⟩
 ·(repeat' first | refine X.rq ?_ | refine X.rc ?_ ?_ <;> intro hc <;> try omega)
  refine K.l_box rfl rfl rfl (fun B1 => ?_)
  refine K.l_alloc (Fx.zr rfl) rfl rfl (fun B2 => ?_)
  (repeat' first | refine X.rq ?_ | refine X.rc ?_ ?_ <;> intro hc <;> try omega)
  refine K.l_alloc (Fx.zr rfl) rfl rfl (fun B3 => ?_)
  refine X.stw ?_
  simp only [Go.K.nmz]
  (repeat' first | refine X.rq ?_ | refine X.rc ?_ ?_ <;> intro hc <;> try omega)
  refine X.sto ?_
  simp only [Go.K.nmz]
  (repeat' first | refine X.rq ?_ | refine X.rc ?_ ?_ <;> intro hc <;> try omega)
  refine X.sto ?_
  simp only [Go.K.nmz]
  (repeat' first | refine X.rq ?_ | refine X.rc ?_ ?_ <;> intro hc <;> try omega)
  refine K.WL.perm (K.pp [1] rfl) ?_
  simp only [Go.K.nmz]
  refine X.stw ?_
  simp only [Go.K.nmz]
  (repeat' first | refine X.rq ?_ | refine X.rc ?_ ?_ <;> intro hc <;> try omega)
  refine K.dc (.cell rfl (Fx.agg rfl) (Fx.sz rfl) (by first | exact K.cels_own (pre := []) (post := []) 0 rfl rfl | exact K.cels_own (pre := []) (post := []) 1 rfl rfl | exact K.cels_own (pre := []) (post := []) 2 rfl rfl | exact K.cels_own (pre := []) (post := []) 3 rfl rfl | exact K.cels_own (pre := []) (post := []) 4 rfl rfl | exact K.cels_own (pre := []) (post := []) 5 rfl rfl) .nil) (by first | exact K.Base.le.refl _ | assumption) (vs := [.agg ([.int .i64 7, .int .u64 lsn, .int .u32 txn, .int .u64 prev, .int .u64 0, .int .u32 0, .int .u32 0, .int .i64 0, .int .i64 0, .int .u32 0, .slice none 0 0, .slice none 0 0, .slice none 0 0, .slice none 0 0, .int .u32 0] : List Value).toArray]) (D := [_, _, _]) (H' := []) rfl ⟨rfl, rfl, rfl⟩
 ·(repeat' first | refine X.rq ?_ | refine X.rc ?_ ?_ <;> intro hc <;> try omega)
  refine K.l_box rfl rfl rfl (fun B1 => ?_)
  refine K.l_alloc (Fx.zr rfl) rfl rfl (fun B2 => ?_)
  (repeat' first | refine X.rq ?_ | refine X.rc ?_ ?_ <;> intro hc <;> try omega)
  refine K.l_alloc (Fx.zr rfl) rfl rfl (fun B3 => ?_)
  refine X.stw ?_
  simp only [Go.K.nmz]
  (repeat' first | refine X.rq ?_ | refine X.rc ?_ ?_ <;> intro hc <;> try omega)
  refine X.draw ([blk B1 92 [.int .i64 8, .int .u64 lsn, .int .u32 txn, .int .u64 prev, .int .u64 undo, .int .u32 page, .int .u32 root, .int .i64 op.kind, .int .i64 op.slot, .int .u32 op.txn, .slice ad nd cd, .slice ai ni ci, .slice al nl cl, .slice ay ny cy, .int .u32 next]]) [] (.pu 0 (.pu 2 (.pu 4 (.st 1 (.pu 6 (.st 3 (.st 5 (.on 7 (.pu 8 (.on 9 (.pu 10 (.on 11 .nil)))))))))))) ?_
  refine X.u_fa ?_
  refine X.u_fa ?_
  refine X.u_fa ?_
  refine X.s_ld ?_
  refine X.u_fa ?_
  refine X.s_ld ?_
  refine X.s_ld ?_
  refine K.d_on rfl (fun KK hKK => ?_)
  refine X.sto ?_
  refine K.l_nil ?_
  refine X.onE hKK ?_
  refine X.u_fa ?_
  refine K.d_on rfl (fun KK hKK => ?_)
  refine X.sto ?_
  refine K.l_nil ?_
  refine X.onE hKK ?_
  refine X.u_fa ?_
  refine K.d_on rfl (fun KK hKK => ?_)
  refine X.sto ?_
  refine K.l_nil ?_
  refine X.onE hKK ?_
  refine K.d_nil ?_
  (repeat' first | refine X.rq ?_ | refine X.rc ?_ ?_ <;> intro hc <;> try omega)
  refine K.WL.perm (K.pp [1] rfl) ?_
  simp only [Go.K.nmz]
  refine X.stw ?_
  simp only [Go.K.nmz]
  (repeat' first | refine X.rq ?_ | refine X.rc ?_ ?_ <;> intro hc <;> try omega)
  refine K.dc (.cell rfl (Fx.agg rfl) (Fx.sz rfl) (by first | exact K.cels_own (pre := []) (post := []) 0 rfl rfl | exact K.cels_own (pre := []) (post := []) 1 rfl rfl | exact K.cels_own (pre := []) (post := []) 2 rfl rfl | exact K.cels_own (pre := []) (post := []) 3 rfl rfl | exact K.cels_own (pre := []) (post := []) 4 rfl rfl | exact K.cels_own (pre := []) (post := []) 5 rfl rfl) .nil) (by first | exact K.Base.le.refl _ | assumption) (vs := [.agg ([.int .i64 8, .int .u64 lsn, .int .u32 0, .int .u64 0, .int .u64 0, .int .u32 0, .int .u32 0, .int .i64 0, .int .i64 0, .int .u32 0, .slice none 0 0, .slice none 0 0, .slice al nl cl, .slice ay ny cy, .int .u32 next] : List Value).toArray]) (D := [_, _, _]) (H' := []) rfl ⟨rfl, rfl, rfl⟩
 ·have h1 : ¬ (kind = 1 ∨ kind = 2 ∨ kind = 3 ∨ kind = 5 ∨ kind = 6 ∨ kind = 7) := by omega
  have h2 : ¬ ((kind = 1 ∨ kind = 2 ∨ kind = 3 ∨ kind = 5 ∨ kind = 6 ∨ kind = 7) ∧ kind ≠ 1) := by omega
  have h3 : ¬ kind = 3 := by omega
  have h4 : ¬ (kind = 2 ∨ kind = 3) := by omega
  have h5 : ¬ kind = 4 := by omega
  have h6 : ¬ kind = 8 := by omega
  (repeat' first | refine X.rq ?_ | refine X.rc ?_ ?_ <;> intro hc <;> try omega)
  refine K.l_box rfl rfl rfl (fun B1 => ?_)
  refine K.l_alloc (Fx.zr rfl) rfl rfl (fun B2 => ?_)
  (repeat' first | refine X.rq ?_ | refine X.rc ?_ ?_ <;> intro hc <;> try omega)
  refine K.l_alloc (Fx.zr rfl) rfl rfl (fun B3 => ?_)
  refine X.stw ?_
  simp only [Go.K.nmz]
  (repeat' first | refine X.rq ?_ | refine X.rc ?_ ?_ <;> intro hc <;> try omega)
  refine K.WL.perm (K.pp [1] rfl) ?_
  simp only [Go.K.nmz]
  refine X.stw ?_
  simp only [Go.K.nmz]
  (repeat' first | refine X.rq ?_ | refine X.rc ?_ ?_ <;> intro hc <;> try omega)
  refine K.dc (.cell rfl (Fx.agg rfl) (Fx.sz rfl) (by first | exact K.cels_own (pre := []) (post := []) 0 rfl rfl | exact K.cels_own (pre := []) (post := []) 1 rfl rfl | exact K.cels_own (pre := []) (post := []) 2 rfl rfl | exact K.cels_own (pre := []) (post := []) 3 rfl rfl | exact K.cels_own (pre := []) (post := []) 4 rfl rfl | exact K.cels_own (pre := []) (post := []) 5 rfl rfl) .nil) (by first | exact K.Base.le.refl _ | assumption) (vs := [.agg ([.int .i64 kind, .int .u64 lsn, .int .u32 0, .int .u64 0, .int .u64 0, .int .u32 0, .int .u32 0, .int .i64 0, .int .i64 0, .int .u32 0, .slice none 0 0, .slice none 0 0, .slice none 0 0, .slice none 0 0, .int .u32 0] : List Value).toArray]) (D := [_, _, _]) (H' := []) rfl ⟨by simp only [if_neg h1, if_neg h2, if_neg h3, if_neg h4, if_neg h5, if_neg h6]; rfl, rfl, rfl⟩
end Go.Proofs.YtijbhgiigddjdaaGreat.Rc
