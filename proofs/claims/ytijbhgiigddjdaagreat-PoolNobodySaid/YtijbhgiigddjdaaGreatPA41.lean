/-
  Texts joined: Oi On. Conditions: each theorem's own.
-/
import Derived.Test.YtijbhgiigddjdaaGreatPA40
import Derived.Test.YtijbhgiigddjdaaGreatPA9
import Derived.Test.YtijbhgiigddjdaaGreatPA22
section
namespace Go.K
open Go
set_option linter.unusedVariables false
set_option linter.unusedSimpArgs false
set_option linter.unusedSectionVars false
section
variable {P : Program} {n : NN} {Q : Exit → Act → World → Prop} {E : Env} {h : Base} {H K : List Asrt} {ops : Array Oper} {rest : List Oper}
variable {t kt et ty : TypeId} {ps : String} {af : Array Edge} {d r : Nat} {x : Operand}
theorem l_rangeZ (hu : P.underlying t = some (.map kt et)) (hx : lkO E x = some (.map none)) (hd : Nat.blt d n = true)
  (hk : ∀ R, WL P n ops Q rest ((d, .pointer (some ⟨R, 0, none⟩)) :: E) h (objA R (.mapIter none 0 #[] 0) :: H)) : WL P n ops Q (⟨some d, .range t x, ty, ps, af, none⟩ :: rest) E h H :=
 s_runE fun s w fa ok => by
  refine ⟨.pointer (some ⟨w.heap.size, 0, none⟩), w.alloc (.mapIter none 0 #[] 0), ?_, (hk w.heap.size).run _ _ (fa.put _ hd) (ok.allocO _)⟩
  simp only [execOp, fa.eval hx, Instr.range, Sem.run_bind, run_underlying hu, Result.andThen_ok]
  simp [newObj, Sem.run]
theorem p_nextZ {dst : Option Nat} {g : Option (Nat × Bool)} (j : Nat) (hj : K[j]? = some (objA r (.mapIter none 0 #[] 0))) (hx : lkO E x = some (.pointer (some ⟨r, 0, none⟩))) : Pu P n E h K ⟨dst, .next x false, ty, ps, af, g⟩ (.tuple #[.bool false]) :=
 ⟨fun s w fa hs => by
  have hr : w.heap[r]? = some (.mapIter none 0 #[] 0) := hs.own _ (List.mem_of_getElem? hj)
  simp [execOp, fa.eval hx, Instr.next, getObj, Sem.run, hr]⟩
end
end Go.K
namespace Go.Proofs.YtijbhgiigddjdaaGreat.Pl
open Go Go.K Go.Proofs Go.Proofs.YtijbhgiigddjdaaGreat Go.Proofs.YtijbhgiigddjdaaGreat.Pg Go.Proofs.YtijbhgiigddjdaaGreat.Wl
set_option linter.unusedVariables false
set_option linter.unusedSimpArgs false
set_option maxRecDepth 10000

theorem BLen64 (h : Base) (m : Nat) (hm : m ≤ 1) : TrV Tryz.prog 125 [.int .u64 m] h [] (.int .i64 m) [] := by
 refine K.enter Tryz.func125 rfl (Nat.le_of_ble_eq_true rfl) (fun F => ?_)
 simp only [List.nil_append]
 (repeat' first | refine X.rq ?_ | refine X.rc ?_ ?_ <;> intro hc <;> try omega)
 have : m = 0 ∨ m = 1 := by omega
 rcases this with rfl | rfl
 all_goals
  refine K.s_pure (K.p_indexT (Fx.und rfl) rfl rfl (by decide) rfl) rfl ?_
  (repeat' first | refine X.rq ?_ | refine X.rc ?_ ?_ <;> intro hc <;> try omega)
  refine K.done (by first | exact Or.inl rfl | exact Or.inr rfl) rfl (by first | exact K.Base.le.refl _ | assumption) (H' := []) rfl ⟨rfl, rfl, rfl⟩
theorem BLen (h : Base) (m : Nat) (hm : m ≤ 1) : TrV Tryz.prog 89 [.int .u64 m] h [] (.int .i64 m) [] := by
 refine K.enter Tryz.func89 rfl (Nat.le_of_ble_eq_true rfl) (fun F => ?_)
 simp only [List.nil_append]
 (repeat' first | refine X.rq ?_ | refine X.rc ?_ ?_ <;> intro hc <;> try omega)
 refine K.l_callV (Fx.cal rfl) rfl (BLen64 h m hm) (K.pp [] rfl) rfl rfl ?_
 simp only [List.nil_append]
 (repeat' first | refine X.rq ?_ | refine X.rc ?_ ?_ <;> intro hc <;> try omega)
 refine K.done (by first | exact Or.inl rfl | exact Or.inr rfl) rfl (by first | exact K.Base.le.refl _ | assumption) (H' := []) rfl ⟨rfl, rfl, rfl⟩
theorem InsS (h : Base) (ao : Option Addr) (m ca : Nat) (fv : Value) (hm : m ≤ 1) : TrV Tryz.prog 116 [.slice ao m ca, .int .i64 0, .int .i64 m, fv] h [] (.tuple #[]) [] := by
 refine K.enter Tryz.func116 rfl (Nat.le_of_ble_eq_true rfl) (fun F => ?_)
 simp only [List.nil_append]
 (repeat' first | refine X.rq ?_ | refine X.rc ?_ ?_ <;> intro hc <;> try omega)
 refine K.c_loop (σ := Unit) (fun s => [(2, .int .i64 m), (8, .int .i64 1)]) (fun _ => h) (fun s => F) (fun s => True) (fun s => 0) () trivial (by repeat (first | exact K.Sub.nil _ | refine K.Sub.cons rfl ?_)) rfl rfl ?_
 rintro s - KL hKL
 (repeat' first | refine X.rq ?_ | refine X.rc ?_ ?_ <;> intro hc <;> try omega)
 all_goals try (exfalso; omega)
 refine K.done (by first | exact Or.inl rfl | exact Or.inr rfl) rfl (by first | exact K.Base.le.refl _ | assumption) (H' := []) rfl ⟨rfl, rfl, rfl⟩
theorem PdqS (h : Base) (ao : Option Addr) (m ca : Nat) (li : Int) (fv : Value) (hm : m ≤ 1) : TrV Tryz.prog 88 [.slice ao m ca, .int .i64 0, .int .i64 m, .int .i64 li, fv] h [] (.tuple #[]) [] := by
 refine K.enter Tryz.func88 rfl (Nat.le_of_ble_eq_true rfl) (fun F => ?_)
 simp only [List.nil_append]
 (repeat' first | refine X.rq ?_ | refine X.rc ?_ ?_ <;> intro hc <;> try omega)
 refine K.c_loop (σ := Unit) (fun s => [(0, .slice ao m ca), (1, .int .i64 0), (2, .int .i64 m), (4, fv)]) (fun _ => h) (fun s => F) (fun s => True) (fun s => 0) () trivial (by repeat (first | exact K.Sub.nil _ | refine K.Sub.cons rfl ?_)) rfl rfl ?_
 rintro s - KL hKL
 (repeat' first | refine X.rq ?_ | refine X.rc ?_ ?_ <;> intro hc <;> try omega)
 all_goals try (exfalso; omega)
 refine K.l_callV (Fx.cal rfl) rfl (InsS h ao m ca fv hm) (K.pp [] rfl) rfl rfl ?_
 simp only [List.nil_append]
 (repeat' first | refine X.rq ?_ | refine X.rc ?_ ?_ <;> intro hc <;> try omega)
 refine K.done (by first | exact Or.inl rfl | exact Or.inr rfl) rfl (by first | exact K.Base.le.refl _ | assumption) (H' := []) rfl ⟨rfl, rfl, rfl⟩
theorem SortD (h : Base) (ao : Option Addr) (m ca : Nat) (fv : Value) (hm : m ≤ 1) : TrV Tryz.prog 48 [.slice ao m ca, fv] h [] (.tuple #[]) [] := by
 refine K.enter Tryz.func48 rfl (Nat.le_of_ble_eq_true rfl) (fun F => ?_)
 simp only [List.nil_append]
 (repeat' first | refine X.rq ?_ | refine X.rc ?_ ?_ <;> intro hc <;> try omega)
 refine K.l_callV (Fx.cal rfl) rfl (BLen h m hm) (K.pp [] rfl) rfl rfl ?_
 simp only [List.nil_append]
 (repeat' first | refine X.rq ?_ | refine X.rc ?_ ?_ <;> intro hc <;> try omega)
 refine K.l_callV (Fx.cal rfl) rfl (PdqS h ao m ca m fv hm) (K.pp [] rfl) rfl rfl ?_
 simp only [List.nil_append]
 (repeat' first | refine X.rq ?_ | refine X.rc ?_ ?_ <;> intro hc <;> try omega)
 refine K.done (by first | exact Or.inl rfl | exact Or.inr rfl) rfl (by first | exact K.Base.le.refl _ | assumption) (H' := []) rfl ⟨rfl, rfl, rfl⟩
def poZ : List Value := [.pointer none, .pointer none, .int .i64 0, .slice none 0 0, .map none, .map none, .int .i64 0]
theorem QDirtyZ (h : Base) (q : Nat) : TrV Tryz.prog 17 [pv q] h [blk q 55 poZ] (.slice none 0 0) [blk q 55 poZ] := by
 refine K.enter Tryz.func17 rfl (Nat.le_of_ble_eq_true rfl) (fun F => ?_)
 unfold poZ
 simp only [List.cons_append, List.nil_append]
 (repeat' first | refine X.rq ?_ | refine X.rc ?_ ?_ <;> intro hc <;> try omega)
 refine K.l_rangeZ rfl rfl rfl (fun R => ?_)
 (repeat' first | refine X.rq ?_ | refine X.rc ?_ ?_ <;> intro hc <;> try omega)
 refine K.c_loop (σ := Unit) (fun s => [(3, .slice none 0 0), (12, .pointer (some ⟨R, 0, none⟩))]) (fun _ => h) (fun s => objA R (.mapIter none 0 #[] 0) :: blk q 55 [.pointer none, .pointer none, .int .i64 0, .slice none 0 0, .map none, .map none, .int .i64 0] :: F) (fun s => True) (fun s => 0) () trivial (by repeat (first | exact K.Sub.nil _ | refine K.Sub.cons rfl ?_)) rfl rfl ?_
 rintro s - KL hKL
 (repeat' first | refine X.rq ?_ | refine X.rc ?_ ?_ <;> intro hc <;> try omega)
 refine K.s_pure (K.p_nextZ 0 rfl rfl) rfl ?_
 (repeat' first | refine X.rq ?_ | refine X.rc ?_ ?_ <;> intro hc <;> try omega)
 refine K.l_callV (Fx.cal rfl) rfl (SortD h none 0 0 _ (Nat.zero_le _)) (K.pp [] rfl) rfl rfl ?_
 simp only [List.nil_append]
 (repeat' first | refine X.rq ?_ | refine X.rc ?_ ?_ <;> intro hc <;> try omega)
 refine K.AT.drop ?_
 refine K.done (by first | exact Or.inl rfl | exact Or.inr rfl) rfl (by first | exact K.Base.le.refl _ | assumption) (H' := [_]) rfl ⟨rfl, rfl, rfl⟩
def OneD (m : List ME) : Prop := m = [] ∨ ∃ (k v c : Nat), m = [((k : Int), Wl.n64 v, c)]
def dirC (m : List ME) : List Value := m.flatMap fun e => [.int .u32 e.1, e.2.1]
set_option maxHeartbeats 4000000 in
theorem QDirty (h : Base) (q d l : Nat) (M : PM) (P : Po) (hm : MapOk P.dl P.dc) (h1 : OneD P.dl) :
  Tr Tryz.prog 17 [pv q] h [poB q d l M P, mapA M.dm .u32 P.dl P.dc] (fun u h' H' => h' = h ∧ ∃ a cap, u = bufV a P.dl.length cap ∧ H' = [poB q d l M P, mapA M.dm .u32 P.dl P.dc, bufA 94 2 a P.dl.length cap (dirC P.dl)]) := by
 have hlen : P.dl.length ≤ 1 := by rcases h1 with h | ⟨k, v, c, h⟩ <;> rw [h] <;> simp
 refine K.enter Tryz.func17 rfl (Nat.le_of_ble_eq_true rfl) (fun F => ?_)
 unfold poB poV
 simp only [List.cons_append, List.nil_append]
 (repeat' first | refine X.rq ?_ | refine X.rc ?_ ?_ <;> intro hc <;> try omega)
 refine K.l_range 1 rfl rfl rfl rfl (fun R => ?_)
 (repeat' first | refine X.rq ?_ | refine X.rc ?_ ?_ <;> intro hc <;> try omega)
 refine K.WC.nilBuf 94 2 ?_
 refine K.WC.perm (K.pp [1, 2] rfl) ?_
 simp only [Go.K.nmz]
 refine K.c_loop (σ := List ME × Option Nat × Nat) (fun s => [(3, bufV s.2.1 s.1.length s.2.2), (12, .pointer (some ⟨R, 0, none⟩))]) (fun _ => h)
  (fun s => iterA R M.dm P.dc (s.1.map (·.2.2)) P.dc :: mapA M.dm .u32 P.dl P.dc :: bufA 94 2 s.2.1 s.1.length s.2.2 (dirC s.1) :: blk q 55 [dv d, pv l, .int .i64 P.most, bufV M.fa P.frs.length M.fk, .map (some M.wm), .map (some M.dm), .int .i64 P.hand] :: F)
  (fun s => s.1 = [] ∨ s.1 = P.dl) (fun s => P.dl.length - s.1.length) ([], none, 0) (.inl rfl) (by repeat (first | exact K.Sub.nil _ | refine K.Sub.cons rfl ?_)) rfl rfl ?_
 rintro ⟨dn, a, cap⟩ hdn KL hKL
 dsimp only at hdn ⊢
 (repeat' first | refine X.rq ?_ | refine X.rc ?_ ?_ <;> intro hc <;> try omega)
 refine K.l_next hm rfl rfl (fun hall => ?_) (fun e he hns => ?_)
 ·have hd : dn = P.dl := by
   rcases hdn with rfl | h
   ·rcases h1 with h | ⟨k, v, c, h⟩
    ·exact h.symm
    ·exfalso
     have := hall ((k : Int), Wl.n64 v, c) (by rw [h]; simp)
     cases this
   ·exact h
  subst hd
  (repeat' first | refine X.rq ?_ | refine X.rc ?_ ?_ <;> intro hc <;> try omega)
  refine K.l_callV (Fx.cal rfl) rfl (SortD h _ P.dl.length cap _ hlen) (K.pp [] rfl) rfl rfl ?_
  simp only [List.nil_append]
  (repeat' first | refine X.rq ?_ | refine X.rc ?_ ?_ <;> intro hc <;> try omega)
  refine K.AT.drop ?_
  refine K.AT.perm (K.pp [2] rfl) ?_
  simp only [Go.K.nmz]
  refine K.done (by first | exact Or.inl rfl | exact Or.inr rfl) rfl (by first | exact K.Base.le.refl _ | assumption) (H' := [_, _, _]) rfl ⟨rfl, a, cap, rfl, rfl⟩
 ·have hd : dn = [] := by
   rcases hdn with h | h
   ·exact h
   ·exfalso
    exact hns (by rw [h]; exact List.mem_map_of_mem he)
  subst hd
  rcases h1 with h0 | ⟨k, v, c, h0⟩
  ·rw [h0] at he; cases he
  have hee : e = ((k : Int), Wl.n64 v, c) := by rw [h0] at he; simpa using he
  subst hee
  (repeat' first | refine X.rq ?_ | refine X.rc ?_ ?_ <;> intro hc <;> try omega)
  refine K.s_pure (K.p_entry 0 1 rfl rfl hm he rfl) rfl ?_
  (repeat' first | refine X.rq ?_ | refine X.rc ?_ ?_ <;> intro hc <;> try omega)
  refine K.l_buildSlice (Fx.und rfl) (Fx.sz rfl) rfl (Fx.zr rfl) rfl rfl rfl (cs := [.int .u32 k, Wl.n64 v]) rfl rfl (fun B19 => ?_)
  refine K.l_append_at 3 rfl (Fx.und rfl) (Fx.und rfl) rfl (Fx.sz rfl) (Fx.zr rfl) rfl (Fx.byt rfl) rfl rfl (K.src_cells (K.cels_own (pre := []) (cs := [.int .u32 k, Wl.n64 v]) (post := []) 0 rfl rfl) rfl (by simp [oneCell, Wl.n64])) (by simp) (by simp) rfl (fun a6 cap6 => ?_)
  simp only [Go.K.nmz]
  (repeat' first | refine X.rq ?_ | refine X.rc ?_ ?_ <;> intro hc <;> try omega)
  refine K.AT.sel [0] rfl ?_
  refine K.a_round hKL ([((k : Int), Wl.n64 v, c)], a6, cap6) (.inr h0.symm) (by repeat (first | exact K.Sub.nil _ | refine K.Sub.cons rfl ?_)) rfl rfl (by dsimp only; rw [h0]; simp)
end Go.Proofs.YtijbhgiigddjdaaGreat.Pl
end

section
namespace Go.Proofs.YtijbhgiigddjdaaGreat.Pl
open Go Go.K Go.Proofs Go.Proofs.YtijbhgiigddjdaaGreat Go.Proofs.YtijbhgiigddjdaaGreat.Pg Go.Proofs.YtijbhgiigddjdaaGreat.Wl
set_option linter.unusedVariables false
set_option linter.unusedSimpArgs false
set_option maxRecDepth 10000

def Nob (q : Nat) (v : Value) : Prop := v = .pointer none ∨ v = pv q
def nobA (q : Nat) : List Asrt := [blk q 55 poZ]
def zV : Value := .agg (cP ⟨0, 0, 0, []⟩ (.slice none 0 0)).toArray
theorem NPages (h : Base) (q : Nat) (v : Value) (hv : Nob q v) : TrV Tryz.prog 16 [v] h (nobA q) (.int .i64 0) (nobA q) := by
 refine K.enter Tryz.func16 rfl (Nat.le_of_ble_eq_true rfl) (fun F => ?_)
 unfold nobA poZ
 simp only [List.cons_append, List.nil_append]
 rcases hv with rfl | rfl
 all_goals
  (repeat' first | refine X.rq ?_ | refine X.rc ?_ ?_ <;> intro hc <;> try omega)
  refine K.done (by first | exact Or.inl rfl | exact Or.inr rfl) rfl (by first | exact K.Base.le.refl _ | assumption) (H' := [_]) rfl ⟨rfl, rfl, rfl⟩
theorem NHas (h : Base) (q : Nat) (v : Value) (hv : Nob q v) (n : Nat) (hn : n < 4294967296) : TrV Tryz.prog 34 [v, .int .u32 n] h (nobA q) (.bool false) (nobA q) := by
 have h1 := NPages h q v hv
 refine K.enter Tryz.func34 rfl (Nat.le_of_ble_eq_true rfl) (fun F => ?_)
 unfold nobA at *
 simp only [List.cons_append, List.nil_append]
 by_cases hn1 : 1 ≤ n
 ·(repeat' first | refine X.rq ?_ | refine X.rc ?_ ?_ <;> intro hc <;> try omega)
  refine K.l_callV (Fx.cal rfl) rfl h1 (K.pp [0] rfl) rfl rfl ?_
  (repeat' first | refine X.rq ?_ | refine X.rc ?_ ?_ <;> intro hc <;> try omega)
  refine K.done (by first | exact Or.inl rfl | exact Or.inr rfl) rfl (by first | exact K.Base.le.refl _ | assumption) (H' := [_]) rfl ⟨?_, rfl, rfl⟩
  show Value.bool _ = Value.bool _
  congr 1
  exact decide_eq_false (by omega)
 ·(repeat' first | refine X.rq ?_ | refine X.rc ?_ ?_ <;> intro hc <;> try omega)
  refine K.done (by first | exact Or.inl rfl | exact Or.inr rfl) rfl (by first | exact K.Base.le.refl _ | assumption) (H' := [_]) rfl ⟨?_, rfl, rfl⟩
  show Value.bool _ = Value.bool _
  congr 1
theorem NGet (h : Base) (q : Nat) (v : Value) (hv : Nob q v) (n : Nat) (hn : n < 4294967296) : TrV Tryz.prog 10 [v, .int .u32 n] h (nobA q) (.tuple #[zV, .int .i64 2]) (nobA q) := by
 have h1 := NHas h q v hv n hn
 refine K.enter Tryz.func10 rfl (Nat.le_of_ble_eq_true rfl) (fun F => ?_)
 unfold nobA at *
 simp only [List.cons_append, List.nil_append]
 (repeat' first | refine X.rq ?_ | refine X.rc ?_ ?_ <;> intro hc <;> try omega)
 refine K.l_alloc (Fx.zr rfl) rfl rfl (fun B2 => ?_)
 (repeat' first | refine X.rq ?_ | refine X.rc ?_ ?_ <;> intro hc <;> try omega)
 refine K.WL.perm (K.pp [1] rfl) ?_
 simp only [Go.K.nmz]
 refine K.l_callV (Fx.cal rfl) rfl h1 (K.pp [0] rfl) rfl rfl ?_
 (repeat' first | refine X.rq ?_ | refine X.rc ?_ ?_ <;> intro hc <;> try omega)
 refine X.stw ?_
 simp only [Go.K.nmz]
 (repeat' first | refine X.rq ?_ | refine X.rc ?_ ?_ <;> intro hc <;> try omega)
 refine K.AT.perm (K.pp [1, 0] rfl) ?_
 simp only [Go.K.nmz]
 refine K.doneC (vs := [zV, .int .i64 2]) (by first | exact Or.inl rfl | exact Or.inr rfl) (.cell rfl (Fx.agg rfl) (Fx.sz rfl) (K.cels_own (pre := []) (post := []) 0 rfl rfl) (.tmp rfl .nil)) (by first | exact K.Base.le.refl _ | assumption) (D := [_]) (H' := [_]) rfl ⟨rfl, rfl, rfl⟩
theorem NPut (h : Base) (q : Nat) (v : Value) (hv : Nob q v) (n : Nat) (hn : n < 4294967296) (cs : List Value) (p : Pag) (hx : PagC h cs p) : TrV Tryz.prog 15 [v, .int .u32 n, .agg cs.toArray] h (nobA q) (.int .i64 2) (nobA q) := by
 have h1 := NHas h q v hv n hn
 obtain ⟨hw, cv, rfl, es, hv2, hel, hr⟩ := hx
 obtain ⟨ao, ca, rfl⟩ := hv2.len
 clear hv2 hr hw
 refine K.enter Tryz.func15 rfl (Nat.le_of_ble_eq_true rfl) (fun F => ?_)
 unfold nobA at *
 simp only [List.cons_append, List.nil_append]
 (repeat' first | refine X.rq ?_ | refine X.rc ?_ ?_ <;> intro hc <;> try omega)
 refine K.l_box rfl rfl rfl (fun B1 => ?_)
 (repeat' first | refine X.rq ?_ | refine X.rc ?_ ?_ <;> intro hc <;> try omega)
 refine K.WL.perm (K.pp [1] rfl) ?_
 simp only [Go.K.nmz]
 refine K.l_callV (Fx.cal rfl) rfl h1 (K.pp [0] rfl) rfl rfl ?_
 simp only [List.cons_append, List.nil_append]
 (repeat' first | refine X.rq ?_ | refine X.rc ?_ ?_ <;> intro hc <;> try omega)
 refine K.AT.perm (K.pp [1, 0] rfl) ?_
 simp only [Go.K.nmz]
 refine K.AT.drop ?_
 refine K.done (by first | exact Or.inl rfl | exact Or.inr rfl) rfl (by first | exact K.Base.le.refl _ | assumption) (H' := [_]) rfl ⟨rfl, rfl, rfl⟩
theorem NFlush (h : Base) (q : Nat) (v : Value) (hv : Nob q v) : TrV Tryz.prog 18 [v] h (nobA q) (.int .i64 0) (nobA q) := by
 refine K.enter Tryz.func18 rfl (Nat.le_of_ble_eq_true rfl) (fun F => ?_)
 unfold nobA poZ
 simp only [List.cons_append, List.nil_append]
 rcases hv with rfl | rfl
 ·(repeat' first | refine X.rq ?_ | refine X.rc ?_ ?_ <;> intro hc <;> try omega)
  refine K.done (by first | exact Or.inl rfl | exact Or.inr rfl) rfl (by first | exact K.Base.le.refl _ | assumption) (H' := [_]) rfl ⟨rfl, rfl, rfl⟩
 ·(repeat' first | refine X.rq ?_ | refine X.rc ?_ ?_ <;> intro hc <;> try omega)
  refine K.s_pure (K.p_lenM0 rfl rfl) rfl ?_
  (repeat' first | refine X.rq ?_ | refine X.rc ?_ ?_ <;> intro hc <;> try omega)
  refine K.done (by first | exact Or.inl rfl | exact Or.inr rfl) rfl (by first | exact K.Base.le.refl _ | assumption) (H' := [_]) rfl ⟨rfl, rfl, rfl⟩
theorem NDirty (h : Base) (q : Nat) (v : Value) (hv : Nob q v) : TrV Tryz.prog 17 [v] h (nobA q) (.slice none 0 0) (nobA q) := by
 rcases hv with rfl | rfl
 ·refine K.enter Tryz.func17 rfl (Nat.le_of_ble_eq_true rfl) (fun F => ?_)
  unfold nobA
  simp only [List.cons_append, List.nil_append]
  (repeat' first | refine X.rq ?_ | refine X.rc ?_ ?_ <;> intro hc <;> try omega)
  refine K.done (by first | exact Or.inl rfl | exact Or.inr rfl) rfl (by first | exact K.Base.le.refl _ | assumption) (H' := [_]) rfl ⟨rfl, rfl, rfl⟩
 ·exact QDirtyZ h q
theorem NewNoDisk (h : Base) (d l : Nat) (W : LM) (L : Lg) (m : Int) (hl : L.m.n ≤ 8192) : TrV Tryz.prog 22 [.pointer none, pv l, .int .i64 m] h (lgA l d W L) (.tuple #[.pointer none, .int .i64 1]) (lgA l d W L) := by
 have h2 := LSectors h l d W L
 have h1 : TrV Tryz.prog 32 [.pointer none] h [] (.int .i64 0) [] := SectorsNil h
 refine K.enter Tryz.func22 rfl (Nat.le_of_ble_eq_true rfl) (fun F => ?_)
 unfold lgA at *
 simp only [List.cons_append, List.nil_append] at *
 by_cases hm : 8 ≤ m ∧ m ≤ 256
 ·obtain ⟨k, rfl⟩ : ∃ k : Nat, m = (k : Int) := ⟨m.toNat, by omega⟩
  (repeat' first | refine X.rq ?_ | refine X.rc ?_ ?_ <;> intro hc <;> try omega)
  all_goals try (exfalso; omega)
  refine K.l_callV (Fx.cal rfl) rfl h2 (K.pp [0, 0, 0] rfl) rfl rfl ?_
  simp only [List.cons_append, List.nil_append]
  simp only [Go.K.nmz]
  by_cases h0 : L.m.n = 0
  ·rw [h0]
   (repeat' first | refine X.rq ?_ | refine X.rc ?_ ?_ <;> intro hc <;> try omega)
   all_goals try (exfalso; omega)
   refine K.done (by first | exact Or.inl rfl | exact Or.inr rfl) rfl (by first | exact K.Base.le.refl _ | assumption) (H' := [_, _, _]) rfl ⟨rfl, rfl, rfl⟩
  ·(repeat' first | refine X.rq ?_ | refine X.rc ?_ ?_ <;> intro hc <;> try omega)
   all_goals try (exfalso; omega)
   refine K.l_callV (Fx.cal rfl) rfl h1 (K.pp [] rfl) rfl rfl ?_
   simp only [List.nil_append]
   (repeat' first | refine X.rq ?_ | refine X.rc ?_ ?_ <;> intro hc <;> try omega)
   refine K.l_callV (Fx.cal rfl) rfl h2 (K.pp [0, 0, 0] rfl) rfl rfl ?_
   simp only [List.cons_append, List.nil_append]
   simp only [Go.K.nmz]
   (repeat' first | refine X.rq ?_ | refine X.rc ?_ ?_ <;> intro hc <;> try omega)
   all_goals try (exfalso; omega)
   refine K.done (by first | exact Or.inl rfl | exact Or.inr rfl) rfl (by first | exact K.Base.le.refl _ | assumption) (H' := [_, _, _]) rfl ⟨rfl, rfl, rfl⟩
 ·(repeat' first | refine X.rq ?_ | refine X.rc ?_ ?_ <;> intro hc <;> try omega)
  all_goals try (exfalso; omega)
  all_goals
   refine K.done (by first | exact Or.inl rfl | exact Or.inr rfl) rfl (by first | exact K.Base.le.refl _ | assumption) (H' := [_, _, _]) rfl ⟨rfl, rfl, rfl⟩
theorem NewNoLog (h : Base) (v : Value) (m : Int) (a : Asrt) : TrV Tryz.prog 22 [v, .pointer none, .int .i64 m] h [a] (.tuple #[.pointer none, .int .i64 1]) [a] := by
 have h2 := Wl.ZSectors h (.pointer none) a (Wl.noneNil a)
 refine K.enter Tryz.func22 rfl (Nat.le_of_ble_eq_true rfl) (fun F => ?_)
 simp only [List.cons_append, List.nil_append] at *
 by_cases hm : 8 ≤ m ∧ m ≤ 256
 ·(repeat' first | refine X.rq ?_ | refine X.rc ?_ ?_ <;> intro hc <;> try omega)
  all_goals try (exfalso; omega)
  refine K.l_callV (Fx.cal rfl) rfl h2 (K.pp [0] rfl) rfl rfl ?_
  simp only [List.cons_append, List.nil_append]
  (repeat' first | refine X.rq ?_ | refine X.rc ?_ ?_ <;> intro hc <;> try omega)
  refine K.done (by first | exact Or.inl rfl | exact Or.inr rfl) rfl (by first | exact K.Base.le.refl _ | assumption) (H' := [_]) rfl ⟨rfl, rfl, rfl⟩
 ·(repeat' first | refine X.rq ?_ | refine X.rc ?_ ?_ <;> intro hc <;> try omega)
  all_goals try (exfalso; omega)
  all_goals
   refine K.done (by first | exact Or.inl rfl | exact Or.inr rfl) rfl (by first | exact K.Base.le.refl _ | assumption) (H' := [_]) rfl ⟨rfl, rfl, rfl⟩
end Go.Proofs.YtijbhgiigddjdaaGreat.Pl
end
