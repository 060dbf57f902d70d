/-
  Whom one waits for, and they: followed by a closure that calls itself. Conditions: each theorem's own.
-/
import Derived.Test.YtcpdfajaggbjlaaDoorTq

namespace Go.Proofs.YtcpdfajaggbjlaaDoor.Lk
open Go Go.K Go.Proofs Go.Proofs.YtcpdfajaggbjlaaDoor
set_option linter.unusedVariables false
set_option linter.unusedSimpArgs false
set_option maxRecDepth 10000

/-- Whom one waits for. -/
def outsW (w : List PW) (q : Nat) : List Nat := (w.filter fun p => decide (p.1 = q)).map (·.2)
theorem mem_outs {w : List PW} {q x : Nat} : x ∈ outsW w q ↔ (q, x) ∈ w := by
  unfold outsW
  rw [List.mem_map]
  constructor
  · rintro ⟨p, hp, rfl⟩
    obtain ⟨h1, h2⟩ := List.mem_filter.1 hp
    have : p.1 = q := by simpa using h2
    rw [← this]
    exact h1
  · intro h
    exact ⟨(q, x), List.mem_filter.2 ⟨h, by simp⟩, rfl⟩
inductive ReachW (w : List PW) : Nat → Nat → Prop
  | one {a b : Nat} : (a, b) ∈ w → ReachW w a b
  | more {a b c : Nat} : (a, b) ∈ w → ReachW w b c → ReachW w a c
theorem ReachW.trans {w : List PW} {a b c : Nat} (h1 : ReachW w a b) (h2 : ReachW w b c) : ReachW w a c := by
  induction h1 with
  | one h => exact .more h h2
  | more h _ ih => exact .more h (ih h2)
/-- How many may yet be met. -/
def cntS (w : List PW) (S : List Nat) : Nat := (w.filter fun p => decide (p.2 ∉ S)).length
theorem cnt_le {w : List PW} {S S' : List Nat} (h : ∀ x ∈ S, x ∈ S') : cntS w S' ≤ cntS w S := by
  unfold cntS
  induction w with
  | nil => exact Nat.le_refl _
  | cons p w ih =>
    by_cases h1 : p.2 ∈ S
    · rw [List.filter_cons_of_neg (by simpa using h _ h1), List.filter_cons_of_neg (by simpa using h1)]
      exact ih
    · rw [List.filter_cons_of_pos (l := w) (a := p) (p := fun p => decide (p.2 ∉ S)) (by simpa using h1)]
      by_cases h2 : p.2 ∈ S'
      · rw [List.filter_cons_of_neg (by simpa using h2)]
        exact Nat.le_trans ih (Nat.le_succ _)
      · rw [List.filter_cons_of_pos (by simpa using h2)]
        exact Nat.succ_le_succ ih
theorem cnt_lt {w : List PW} {S : List Nat} {a v : Nat} (hv : (a, v) ∈ w) (hn : v ∉ S) : cntS w (v :: S) < cntS w S := by
  unfold cntS
  induction w with
  | nil => cases hv
  | cons p w ih =>
    rcases List.mem_cons.1 hv with rfl | hv
    · rw [List.filter_cons_of_neg (by simp), List.filter_cons_of_pos (by simpa using hn)]
      exact Nat.lt_succ_of_le (cnt_le (w := w) fun x hx => List.mem_cons_of_mem _ hx)
    · have ih := ih hv
      by_cases h1 : p.2 ∈ S
      · rw [List.filter_cons_of_neg (by simp [h1]), List.filter_cons_of_neg (by simpa using h1)]
        exact ih
      · rw [List.filter_cons_of_pos (l := w) (a := p) (p := fun p => decide (p.2 ∉ S)) (by simpa using h1)]
        by_cases h2 : p.2 ∈ v :: S
        · rw [List.filter_cons_of_neg (by simp only [decide_eq_true_eq]; exact fun e => e h2)]
          exact Nat.lt_succ_of_lt ih
        · rw [List.filter_cons_of_pos (by simpa using h2)]
          exact Nat.succ_lt_succ ih
/-- What following one adds to those that are met. -/
structure FolP (w : List PW) (u : Nat) (S S' : List Nat) : Prop where
  sub : ∀ x ∈ S, x ∈ S'
  reach : ∀ x ∈ S', x ∈ S ∨ ReachW w u x
  all : ∀ x, (u, x) ∈ w → x ∈ S'
  shut : ∀ x ∈ S', x ∉ S → ∀ y, (x, y) ∈ w → y ∈ S'
/-- The same behind some of them. -/
structure FolI (w : List PW) (u : Nat) (S S' : List Nat) (j : Nat) : Prop where
  sub : ∀ x ∈ S, x ∈ S'
  reach : ∀ x ∈ S', x ∈ S ∨ ReachW w u x
  all : ∀ x ∈ (outsW w u).take j, x ∈ S'
  shut : ∀ x ∈ S', x ∉ S → ∀ y, (x, y) ∈ w → y ∈ S'
theorem FolI.nil (w : List PW) (u : Nat) (S : List Nat) : FolI w u S S 0 := ⟨fun _ h => h, fun _ h => .inl h, fun _ h => by rw [List.take_zero] at h; exact absurd h List.not_mem_nil, fun x h1 h2 => absurd h1 h2⟩
theorem FolI.all' {w : List PW} {u : Nat} {S S' : List Nat} (h : FolI w u S S' (outsW w u).length) : FolP w u S S' :=
  ⟨h.sub, h.reach, fun x hx => h.all x (by rw [List.take_length]; exact mem_outs.2 hx), h.shut⟩
theorem FolI.old {w : List PW} {u v j : Nat} {S S' : List Nat} (h : FolI w u S S' j) (hv : (outsW w u)[j]? = some v) (hm : v ∈ S') : FolI w u S S' (j + 1) :=
  ⟨h.sub, h.reach, fun x hx => by
    obtain ⟨hj, rfl⟩ := List.getElem?_eq_some_iff.1 hv
    rw [List.take_succ_eq_append_getElem hj] at hx
    rcases List.mem_append.1 hx with hx | hx
    · exact h.all x hx
    · rw [List.mem_singleton.1 hx]; exact hm, h.shut⟩
theorem FolI.new {w : List PW} {u v j : Nat} {S S1 S2 : List Nat} (h : FolI w u S S1 j) (hv : (outsW w u)[j]? = some v) (hp : FolP w v (v :: S1) S2) : FolI w u S S2 (j + 1) :=
  have huv : (u, v) ∈ w := mem_outs.1 (List.mem_of_getElem? hv)
  ⟨fun x hx => hp.sub x (List.mem_cons_of_mem _ (h.sub x hx)), fun x hx => by
    rcases hp.reach x hx with h1 | h1
    · rcases List.mem_cons.1 h1 with rfl | h1
      · exact .inr (.one huv)
      · exact h.reach x h1
    · exact .inr (.more huv h1), fun x hx => by
    obtain ⟨hj, rfl⟩ := List.getElem?_eq_some_iff.1 hv
    rw [List.take_succ_eq_append_getElem hj] at hx
    rcases List.mem_append.1 hx with hx | hx
    · exact hp.sub x (List.mem_cons_of_mem _ (h.all x hx))
    · rw [List.mem_singleton.1 hx]; exact hp.sub _ List.mem_cons_self, fun x hx hn y hy => by
    by_cases h1 : x ∈ v :: S1
    · rcases List.mem_cons.1 h1 with rfl | h1
      · exact hp.all y hy
      · exact hp.sub y (List.mem_cons_of_mem _ (h.shut x h1 hn y hy))
    · exact hp.shut x hx h1 y hy⟩
/-- A map that holds whom each waits for. -/
def NextM (h : Base) (m : List ME) (w : List PW) : Prop := ∀ q : Nat, SL h 1 ((Go.K.look m q).getD (.slice none 0 0)) ((outsW w q).map fun u => [nV u])
/-- A map that counts those that are met. -/
def SeenM (s : List ME) (S : List Nat) : Prop := ∀ v : Nat, Go.K.look s v = if v ∈ S then some (.int .i64 1) else none
theorem SeenM.put {s : List ME} {S : List Nat} (hs : SeenM s S) (cs v : Nat) : SeenM (putM s cs v (.int .i64 1)) (v :: S) := fun q => by
  rw [Go.K.look_put]
  by_cases h : q = v
  · subst h
    rw [if_pos rfl, if_pos List.mem_cons_self]
  · rw [if_neg (by omega), hs q]
    by_cases h1 : q ∈ S
    · rw [if_pos h1, if_pos (List.mem_cons_of_mem _ h1)]
    · rw [if_neg h1, if_neg (fun e => (List.mem_cons.1 e).elim h h1)]
abbrev folV (BN BS BF : Nat) : Value := .func (.func 39) #[] #[.pointer (some ⟨BN, 0, none⟩), .pointer (some ⟨BS, 0, none⟩), .pointer (some ⟨BF, 0, none⟩)]
abbrev folA (BN M BS SM BF : Nat) (m : List ME) (c : Nat) (s : List ME) (cs : Nat) : List Asrt :=
  [blk BN 68 [.map (some M)], mapA M .u32 m c, blk BS 69 [.map (some SM)], mapA SM .u32 s cs, blk BF 70 [folV BN BS BF]]
structure FoS where
  j : Nat
  s : List ME
  cs : Nat
  S : List Nat
set_option maxHeartbeats 4000000 in
theorem Follow (h : Base) (BN M BS SM BF : Nat) (m : List ME) (c : Nat) (w : List PW) (hN : NextM h m w) (hw : ∀ p ∈ w, p.1 < 4294967296 ∧ p.2 < 4294967296) (hwl : w.length ≤ 17592186044415) : ∀ (k : Nat) (s : List ME) (cs : Nat) (S : List Nat) (u : Nat), MapOk s cs → SeenM s S → cntS w S ≤ k →
    Tr Tryd.prog 39 [.int .u32 u, .pointer (some ⟨BN, 0, none⟩), .pointer (some ⟨BS, 0, none⟩), .pointer (some ⟨BF, 0, none⟩)] h (folA BN M BS SM BF m c s cs)
      (fun r h' H' => h' = h ∧ r = .tuple #[] ∧ ∃ s' cs' S', MapOk s' cs' ∧ SeenM s' S' ∧ FolP w u S S' ∧ H' = folA BN M BS SM BF m c s' cs') := by
  intro k
  induction k using Nat.strongRecOn with
  | _ k ih =>
  intro s cs S u hms hsS hcn
  have hv := hN u
  have hol : (outsW w u).length ≤ w.length := by rw [outsW, List.length_map]; exact List.length_filter_le ..
  generalize hvv : (Go.K.look m u).getD (.slice none 0 0) = vv at hv
  have hln : ((outsW w u).map fun u => [nV u]).length = (outsW w u).length := List.length_map ..
  obtain ⟨ao, ca, rfl⟩ := hv.len
  rw [hln] at hv hvv
  refine K.enter Tryd.func39 rfl (Nat.le_of_ble_eq_true rfl) (fun F => ?_)
  simp only [List.nil_append, List.cons_append]
  (repeat' (first | refine X.rq ?_ | (refine X.rc ?_ ?_ <;> intro hc <;> first | (exfalso; omega) | skip)))
  refine K.s_pure (K.p_lookup 1 rfl rfl rfl rfl rfl rfl hvv) rfl ?_
  (repeat' (first | refine X.rq ?_ | (refine X.rc ?_ ?_ <;> intro hc <;> first | (exfalso; omega) | skip)))
  refine K.c_loop (σ := FoS) (fun q => [(1, .pointer (some ⟨BN, 0, none⟩)), (2, .pointer (some ⟨BS, 0, none⟩)), (3, .pointer (some ⟨BF, 0, none⟩)), (9, .slice ao (outsW w u).length ca), (10, .int .i64 (outsW w u).length), (11, .int .i64 q.j)]) (fun _ => h)
    (fun q => blk BN 68 [.map (some M)] :: mapA M .u32 m c :: blk BS 69 [.map (some SM)] :: mapA SM .u32 q.s q.cs :: blk BF 70 [folV BN BS BF] :: F)
    (fun q => q.j ≤ (outsW w u).length ∧ MapOk q.s q.cs ∧ SeenM q.s q.S ∧ FolI w u S q.S q.j) (fun q => (outsW w u).length - q.j) ⟨0, s, cs, S⟩ ⟨Nat.zero_le _, hms, hsS, FolI.nil w u S⟩ (by repeat (first | exact K.Sub.nil _ | refine K.Sub.cons rfl ?_)) rfl rfl ?_
  rintro ⟨j, s1, cs1, S1⟩ ⟨hj, hm1, hs1, hI⟩ KL hKL
  dsimp only at hj hm1 hs1 hI ⊢
  by_cases hjl : j < (outsW w u).length
  · have hx1 : (outsW w u)[j]? = some ((outsW w u)[j]) := List.getElem?_eq_getElem hjl
    generalize (outsW w u)[j] = v at hx1
    have hc0 : ((outsW w u).map fun u => [nV u])[((j : Nat) : Int).toNat]? = some [nV v] := by rw [Int.toNat_natCast, List.getElem?_map, hx1]; rfl
    have huv : (u, v) ∈ w := mem_outs.1 (List.mem_of_getElem? hx1)
    have hvb := (hw _ huv).2
    dsimp only at hvb
    have hlk := hs1 v
    (repeat' (first | refine X.rq ?_ | (refine X.rc ?_ ?_ <;> intro hc <;> first | (exfalso; omega) | skip)))
    refine K.s_pureE (K.p_indexL hv (Fx.und rfl) (Fx.sz rfl) rfl rfl (by omega) hc0) rfl ?_
    rintro v2 ⟨b, o, rfl, hcel⟩
    refine K.s_pure (K.p_load (v := nV v) (Fx.agg rfl) rfl (Cels.up hcel).1) rfl ?_
    (repeat' (first | refine X.rq ?_ | (refine X.rc ?_ ?_ <;> intro hc <;> first | (exfalso; omega) | skip)))
    by_cases hvS : v ∈ S1
    · rw [if_pos hvS] at hlk
      refine K.s_pure (K.p_lookup (v := .int .i64 1) 3 rfl rfl rfl rfl rfl rfl (by rw [hlk]; rfl)) rfl ?_
      (repeat' (first | refine X.rq ?_ | (refine X.rc ?_ ?_ <;> intro hc <;> first | (exfalso; omega) | skip)))
      all_goals first | (exfalso; simp_all; done) | skip
      refine K.a_round hKL ⟨j + 1, s1, cs1, S1⟩ ⟨by dsimp only; omega, hm1, hs1, hI.old hx1 hvS⟩ (by repeat (first | exact K.Sub.nil _ | refine K.Sub.cons rfl ?_)) rfl rfl (by dsimp only; omega)
    · rw [if_neg hvS] at hlk
      refine K.s_pure (K.p_lookup (v := .int .i64 0) 3 rfl rfl rfl rfl rfl rfl (by rw [hlk]; rfl)) rfl ?_
      have hct := cnt_lt huv hvS
      have hcl : cntS w S1 ≤ cntS w S := cnt_le hI.sub
      have hrec := ih (cntS w (v :: S1)) (by omega) (putM s1 cs1 v (.int .i64 1)) (putC s1 cs1 v) (v :: S1) v (hm1.put _ _) (hs1.put cs1 v) (Nat.le_refl _)
      (repeat' (first | refine X.rq ?_ | (refine X.rc ?_ ?_ <;> intro hc <;> first | (exfalso; omega) | skip)))
      all_goals first | (exfalso; simp_all; done) | skip
      refine K.s_pure (K.p_lookup (v := .int .i64 0) 3 rfl rfl rfl rfl rfl rfl (by rw [hlk]; rfl)) rfl ?_
      (repeat' (first | refine X.rq ?_ | (refine X.rc ?_ ?_ <;> intro hc <;> first | (exfalso; omega) | skip)))
      refine K.l_update_at 3 rfl rfl rfl hm1 rfl rfl rfl ?_
      simp only [List.set_cons_zero, List.set_cons_succ, List.eraseIdx_cons_zero, List.eraseIdx_cons_succ, List.cons_append, List.nil_append]
      (repeat' (first | refine X.rq ?_ | (refine X.rc ?_ ?_ <;> intro hc <;> first | (exfalso; omega) | skip)))
      refine K.l_callF (vals := [.int .u32 v]) (Fx.cal rfl) rfl rfl hrec (K.pp [0, 0, 0, 0, 0] rfl) rfl ?_
      rintro r h' H' - ⟨e, rfl, s2, cs2, S2, hm2, hs2, hp, rfl⟩
      obtain rfl := e.symm
      simp only [List.nil_append, List.cons_append]
      (repeat' (first | refine X.rq ?_ | (refine X.rc ?_ ?_ <;> intro hc <;> first | (exfalso; omega) | skip)))
      refine K.a_round hKL ⟨j + 1, s2, cs2, S2⟩ ⟨by dsimp only; omega, hm2, hs2, hI.new hx1 hp⟩ (by repeat (first | exact K.Sub.nil _ | refine K.Sub.cons rfl ?_)) rfl rfl (by dsimp only; omega)
  · obtain rfl : j = (outsW w u).length := by omega
    (repeat' (first | refine X.rq ?_ | (refine X.rc ?_ ?_ <;> intro hc <;> first | (exfalso; omega) | skip)))
    refine K.done (by first | exact Or.inl rfl | exact Or.inr rfl) rfl (by first | exact K.Base.le.refl _ | assumption) (H' := folA BN M BS SM BF m c s1 cs1) rfl ⟨rfl, rfl, s1, cs1, S1, hm1, hs1, hI.all', rfl⟩
end Go.Proofs.YtcpdfajaggbjlaaDoor.Lk
