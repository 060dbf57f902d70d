/-
 The log's master and its sectors read. Conditions: each theorem's own.
-/
import Derived.Test.YtijbhgiigddjdaaGreatPC14
import Derived.Test.YtijbhgiigddjdaaGreatPC17
set_option linter.unusedVariables false
set_option linter.unusedSimpArgs false
set_option maxRecDepth 10000
set_option maxHeartbeats 16000000
namespace Go.Proofs.YtijbhgiigddjdaaGreat.Wl
open Go.K Cc

theorem text_eq' (a b : List UInt8) : decide ((⟨a.toArray⟩ : ByteArray) = ⟨b.toArray⟩) = decide (a = b) := decide_eq_decide.2 ⟨fun h => by
 have : a.toArray = b.toArray := congrArg ByteArray.data h
 simpa using congrArg Array.toList this, fun h => by rw [h]⟩
theorem Equal (h : Base) (v1 v2 : Value) (a b : List UInt8) (h1 : BV h v1 a) (h2 : BV h v2 b) : TrV Tryz.prog 38 [v1, v2] h [] (.bool (decide (a = b))) [] := by
 obtain ⟨ao, ca, rfl⟩ := h1.len
 obtain ⟨bo, cb, rfl⟩ := h2.len
 refine K.en Tryz.func38 fun F => ?_
 (repeat' first | refine X.rq ?_ | refine X.rc ?_ ?_ <;> intro hc <;> try omega)
 refine K.s_pure (K.p_textB h1 (Fx.und rfl) (Fx.und rfl) (Fx.und rfl) rfl) rfl ?_
 (repeat' first | refine X.rq ?_ | refine X.rc ?_ ?_ <;> intro hc <;> try omega)
 refine K.s_pure (K.p_textB h2 (Fx.und rfl) (Fx.und rfl) (Fx.und rfl) rfl) rfl ?_
 (repeat' first | refine X.rq ?_ | refine X.rc ?_ ?_ <;> intro hc <;> try omega)
 rw [text_eq']
 refine K.dl rfl (H' := []) rfl ⟨rfl, rfl, rfl⟩
def lastLSN : Nat := 4611686018427387904
def rdMas (b : Sec) : Mas := ⟨leNum ((b.drop 8).take 4), leNum ((b.drop 12).take 8), leNum ((b.drop 20).take 8), leNum ((b.drop 28).take 4), decide (leNum ((b.drop 32).take 1) = 1)⟩
def mastQ (sectors : Nat) (b : Sec) : Except Int Mas := if b.take 8 ≠ magic ∨ (rdMas b).n < 16 ∨ sectors ≤ (rdMas b).n ∨ (rdMas b).base < 1 ∨ lastLSN < (rdMas b).base ∨ masterB (rdMas b) ≠ b then .error 5 else .ok (rdMas b)
def rmQ (D : Dk) : Except Int Mas × Dk := match readQ D 0 with
 | (.error e, D') => (.error e, D')
 | (.ok b, D') => (mastQ D.kept.length b, D')
def mas0 : Mas := ⟨0, 0, 0, 0, false⟩
theorem get_true {m : Nat} {l : List UInt8} (h : m ≤ l.length) : getOk true m l = true ∧ getRem true m l = l.drop m ∧ getN true m l = leNum (l.take m) := by
 unfold getOk getRem getN
 rw [if_pos ⟨rfl, h⟩, if_pos ⟨rfl, h⟩, decide_eq_true h]
 exact ⟨rfl, rfl, rfl⟩
theorem read_goes (D : Dk) (at_ : Int) : (readQ D at_).2 = D ∨ (readQ D at_).2 = (goesQ D).2 := by
 unfold readQ
 split
 ·exact .inl rfl
 ·split <;> exact .inr rfl
theorem read_ok {D : Dk} (hk : DkOk D) (at_ : Int) : DkOk (readQ D at_).2 ∧ (readQ D at_).2.cache = D.cache ∧ (readQ D at_).2.kept = D.kept := by
 obtain ⟨e1, e2⟩ := goes_kept D
 rcases read_goes D at_ with h | h <;> rw [h]
 ·exact ⟨hk, rfl, rfl⟩
 ·exact ⟨hk.goes, e2, e1⟩
theorem read_len {D : Dk} (hk : DkOk D) {at_ : Int} {b : Sec} (h : (readQ D at_).1 = .ok b) : b.length = 512 := by
 unfold readQ at h
 split at h
 ·cases h
 ·rename_i ha
  split at h
  ·cases h
   exact view_len hk.secs (by omega) _ fun l hl => (hk.los l hl).2
  ·cases h
theorem same_some {r : RS} {s' : Option RS} (h : same (some r) s') : ∃ made sv bad, s' = some ⟨r.p, made, sv, bad⟩ := by
 cases s' with
 | none => exact h.elim
 | some r' =>
  obtain ⟨p', made, sv, bad⟩ := r'
  obtain rfl : p' = r.p := h
  exact ⟨made, sv, bad, rfl⟩
def rdA (p : Nat) (q : Bool × Value × Bool) : Asrt := blk p 178 [.bool q.1, q.2.1, .bool q.2.2]
def RdN (h : Base) (q : Bool × Value × Bool) (rem : List UInt8) : Prop := Rd h (some ⟨0, q.1, q.2.1, q.2.2⟩) true rem
theorem RawN (h : Base) (p m : Nat) (q : Bool × Value × Bool) (rem : List UInt8) (hr : RdN h q rem) (hl : rem.length ≤ 1000000) (hm : m ≤ rem.length) :
  Tr Tryz.prog 77 [pv p, .int .i64 m] h [rdA p q] (fun v h' H' => h = h' ∧ ∃ a cap q', v = bufV a (rem.take m).length cap ∧ RdN h q' (rem.drop m) ∧ H' = [bufA 5 1 a (rem.take m).length cap ((rem.take m).map u8), rdA p q']) := by
 have hc : true = true ∧ (0 : Int) ≤ m ∧ (m : Int) ≤ rem.length := ⟨rfl, by omega, by omega⟩
 have := R_Raw h (some ⟨p, q.1, q.2.1, q.2.2⟩) true rem m hr (by unfold big; omega) (by omega) (by omega)
 rw [if_pos hc, if_pos hc, Int.toNat_natCast, decide_eq_true hc.2, Bool.and_true] at this
 refine trMono this fun v h' H' _ ⟨e, a, cap, s', e1, hs, hr', e2⟩ => ?_
 obtain ⟨made, sv, bad, rfl⟩ := same_some hs
 exact ⟨e, a, cap, (made, sv, bad), e1, hr', e2⟩
theorem U8N (h : Base) (p : Nat) (q : Bool × Value × Bool) (rem : List UInt8) (hr : RdN h q rem) (hl : rem.length ≤ 1000000) (hm : 1 ≤ rem.length) :
  Tr Tryz.prog 73 [pv p] h [rdA p q] (fun v h' H' => h = h' ∧ v = .int .u8 (leNum (rem.take 1) : Nat) ∧ ∃ q', RdN h q' (rem.drop 1) ∧ H' = [rdA p q']) := by
 have := R_U8 h (some ⟨p, q.1, q.2.1, q.2.2⟩) true rem hr (by unfold big; omega)
 obtain ⟨g1, g2, g3⟩ := get_true hm
 rw [g1, g2, g3] at this
 refine trMono this fun v h' H' _ ⟨e, e1, s', hs, hr', e2⟩ => ?_
 obtain ⟨made, sv, bad, rfl⟩ := same_some hs
 exact ⟨e, e1, (made, sv, bad), hr', e2⟩
theorem U32N (h : Base) (p : Nat) (q : Bool × Value × Bool) (rem : List UInt8) (hr : RdN h q rem) (hl : rem.length ≤ 1000000) (hm : 4 ≤ rem.length) :
  Tr Tryz.prog 72 [pv p] h [rdA p q] (fun v h' H' => h = h' ∧ v = .int .u32 (leNum (rem.take 4) : Nat) ∧ ∃ q', RdN h q' (rem.drop 4) ∧ H' = [rdA p q']) := by
 have := R_U32 h (some ⟨p, q.1, q.2.1, q.2.2⟩) true rem hr (by unfold big; omega)
 obtain ⟨g1, g2, g3⟩ := get_true hm
 rw [g1, g2, g3] at this
 refine trMono this fun v h' H' _ ⟨e, e1, s', hs, hr', e2⟩ => ?_
 obtain ⟨made, sv, bad, rfl⟩ := same_some hs
 exact ⟨e, e1, (made, sv, bad), hr', e2⟩
theorem U64N (h : Base) (p : Nat) (q : Bool × Value × Bool) (rem : List UInt8) (hr : RdN h q rem) (hl : rem.length ≤ 1000000) (hm : 8 ≤ rem.length) :
  Tr Tryz.prog 74 [pv p] h [rdA p q] (fun v h' H' => h = h' ∧ v = .int .u64 (leNum (rem.take 8) : Nat) ∧ ∃ q', RdN h q' (rem.drop 8) ∧ H' = [rdA p q']) := by
 have := R_U64 h (some ⟨p, q.1, q.2.1, q.2.2⟩) true rem hr (by unfold big; omega)
 obtain ⟨g1, g2, g3⟩ := get_true hm
 rw [g1, g2, g3] at this
 refine trMono this fun v h' H' _ ⟨e, e1, s', hs, hr', e2⟩ => ?_
 obtain ⟨made, sv, bad, rfl⟩ := same_some hs
 exact ⟨e, e1, (made, sv, bad), hr', e2⟩
theorem NewN (h : Base) (v : Value) (l : List UInt8) (hb : BV h v l) (hl : l.length ≤ 1000000) : Tr Tryz.prog 71 [v] h [] (fun v' h' H' => ∃ p q, v' = pv p ∧ RdN h' q l ∧ H' = [rdA p q]) :=
 trMono (NewReader h v l [] hb.src (by unfold big; omega)) fun v' h' H' _ ⟨p, sv, e1, hr, e2⟩ => ⟨p, (true, sv, false), e1, hr, e2⟩
def MasR (r : Except Int Mas) (v : Value) : Prop := match r with
 | .ok m => v = .tuple #[.agg (masV m).toArray, .int .i64 0]
 | .error e => v = .tuple #[.agg (masV mas0).toArray, .int .i64 e]
theorem leNum_lt (l : List UInt8) : leNum l < 256 ^ l.length := by
 induction l with
 | nil => decide
 | cons a l ih =>
  have ha := a.toNat_lt
  rw [leNum, List.length_cons, Nat.pow_succ]
  omega
theorem lt_take {l : List UInt8} {m B : Nat} (hB : 256 ^ m = B) : leNum (l.take m) < B := by
 have h1 := leNum_lt (l.take m)
 have h2 : 256 ^ (l.take m).length ≤ 256 ^ m := Nat.pow_le_pow_right (by decide) (by rw [List.length_take]; omega)
 omega
theorem ReadMaster (h : Base) (d : Nat) (M : DM) (D : Dk) (hk : DkOk D) :
  Tr Tryz.prog 56 [dv d] h (dkA d M D) (fun u h' H' => MasR (rmQ D).1 u ∧ ∃ M', H' = dkA d M' (rmQ D).2) := by
 refine K.en Tryz.func56 fun F => ?_
 (repeat' first | refine X.rq ?_ | refine X.rc ?_ ?_ <;> intro hc <;> try omega)
 refine K.l_alloc (Fx.zr rfl) rfl rfl (fun B2 => ?_)
 (repeat' first | refine X.rq ?_ | refine X.rc ?_ ?_ <;> intro hc <;> try omega)
 refine K.l_call (Fx.cal rfl) rfl (Read h d M D 0 hk (by omega) (by omega)) (K.pp [1, 1, 1] rfl) rfl ?_
 rintro u h1 H' le1 ⟨⟨c, rfl⟩, hrd⟩
 obtain ⟨ok1, ec, ek⟩ := read_ok hk 0
 have hse := Sectors h1 d { M with c1 := c } (readQ D 0).2
 have hrm : rmQ D = match readQ D 0 with
  | (.error e, D') => (.error e, D')
  | (.ok b, D') => (mastQ D.kept.length b, D') := rfl
 have hlen := fun b => read_len hk (at_ := 0) (b := b)
 cases hq : readQ D 0 with
 | mk r D1 =>
  rw [hq] at hrd ok1 hse hrm hlen ek
  dsimp only at hrd ok1 hse hrm hlen ek ⊢
  cases r with
  | error e =>
   rw [hrm]
   obtain rfl : u = _ := hrd
   have hne : e ≠ 0 := by
    unfold readQ at hq
    split at hq
    ·cases hq; decide
    ·split at hq
     ·cases hq
     ·cases hq; decide
   (repeat' first | refine X.rq ?_ | refine X.rc ?_ ?_ <;> intro hc <;> try omega)
   all_goals try (exfalso; omega)
   refine X.stw ?_
   (repeat' first | refine X.rq ?_ | refine X.rc ?_ ?_ <;> intro hc <;> try omega)
   refine K.AT.perm (K.pp [3] rfl) ?_
   exact K.dc (vs := [.agg (masV mas0).toArray, .int .i64 e]) (.cell rfl (Fx.agg rfl) (Fx.sz rfl) (K.cels_own (pre := []) (post := []) 0 rfl rfl) (.tmp rfl .nil)) le1 (D := [_]) (H' := [_, _, _]) rfl ⟨rfl, _, rfl⟩
  | ok b =>
   obtain ⟨ao, ca, rfl, hb⟩ := hrd
   have hb5 := hlen b rfl
   have hd8 : (b.drop 8).length = 504 := by rw [List.length_drop]; omega
   simp only [Go.K.nmz]
   (repeat' first | refine X.rq ?_ | refine X.rc ?_ ?_ <;> intro hc <;> try omega)
   refine K.l_call (Fx.cal rfl) rfl (NewN h1 _ b hb (by omega)) (K.pp [] rfl) rfl ?_
   rintro u h2 H' le2 ⟨p, q0, rfl, hq0, rfl⟩
   simp only [Go.K.nmz]
   (repeat' first | refine X.rq ?_ | refine X.rc ?_ ?_ <;> intro hc <;> try omega)
   refine K.l_call (Fx.cal rfl) rfl (RawN h2 p 8 q0 b hq0 (by omega) (by omega)) (K.pp [0] rfl) rfl ?_
   rintro u h3 H' - ⟨rfl, a3, c3, q3, rfl, hq3, rfl⟩
   simp only [Go.K.nmz]
   (repeat' first | refine X.rq ?_ | refine X.rc ?_ ?_ <;> intro hc <;> try omega)
   refine K.l_call (Fx.cal rfl) rfl (U32N h2 p q3 _ hq3 (by omega) (by omega)) (K.pp [1] rfl) rfl ?_
   rintro u h3 H' - ⟨rfl, rfl, q4, hq4, rfl⟩
   have hw : ((leNum ((b.drop 8).take 4) : Nat) : Int) < 4294967296 := by have := lt_take (l := b.drop 8) (m := 4) (B := 4294967296) (by decide); omega
   simp only [Go.K.nmz]
   (repeat' first | refine X.rq ?_ | refine X.rc ?_ ?_ <;> intro hc <;> try omega)
   refine K.l_call (Fx.cal rfl) rfl (U64N h2 p q4 _ hq4 (by simp only [List.length_drop]; omega) (by simp only [List.length_drop]; omega)) (K.pp [0] rfl) rfl ?_
   rintro u h3 H' - ⟨rfl, rfl, q5, hq5, rfl⟩
   simp only [Go.K.nmz]
   (repeat' first | refine X.rq ?_ | refine X.rc ?_ ?_ <;> intro hc <;> try omega)
   refine K.l_call (Fx.cal rfl) rfl (U64N h2 p q5 _ hq5 (by simp only [List.length_drop]; omega) (by simp only [List.length_drop]; omega)) (K.pp [0] rfl) rfl ?_
   rintro u h3 H' - ⟨rfl, rfl, q6, hq6, rfl⟩
   simp only [Go.K.nmz]
   (repeat' first | refine X.rq ?_ | refine X.rc ?_ ?_ <;> intro hc <;> try omega)
   refine K.l_call (Fx.cal rfl) rfl (U32N h2 p q6 _ hq6 (by simp only [List.length_drop]; omega) (by simp only [List.length_drop]; omega)) (K.pp [0] rfl) rfl ?_
   rintro u h3 H' - ⟨rfl, rfl, q7, hq7, rfl⟩
   simp only [Go.K.nmz]
   (repeat' first | refine X.rq ?_ | refine X.rc ?_ ?_ <;> intro hc <;> try omega)
   refine K.l_call (Fx.cal rfl) rfl (U8N h2 p q7 _ hq7 (by simp only [List.length_drop]; omega) (by simp only [List.length_drop]; omega)) (K.pp [0] rfl) rfl ?_
   rintro u h3 H' - ⟨rfl, rfl, q8, hq8, rfl⟩
   simp only [Go.K.nmz]
   simp only [List.drop_drop, Nat.reduceAdd]
   (repeat' first | refine X.rq ?_ | refine X.rc ?_ ?_ <;> intro hc <;> try omega)
   rw [show decide (((leNum ((b.drop 32).take 1) : Nat) : Int) = 1) = decide (leNum ((b.drop 32).take 1) = 1) from decide_eq_decide.2 (by omega)]
   obtain ⟨m, hm⟩ : ∃ m, m = rdMas b := ⟨_, rfl⟩
   refine K.l_alloc (Fx.zr rfl) rfl rfl (fun B8 => ?_)
   refine K.l_storeW_at (us := masV m) 0 rfl (Fx.sz rfl) rfl (by rw [hm]; rfl) rfl rfl rfl ?_
   simp only [Go.K.nmz]
   have emg : decide (({ data := (List.take 8 b).toArray } : ByteArray) = { data := #[99, 97, 100, 97, 115, 116, 114, 101] }) = decide (b.take 8 = magic) := text_eq' _ magic
   rw [emg]
   have hmq : mastQ D.kept.length b = if b.take 8 ≠ magic ∨ m.n < 16 ∨ D.kept.length ≤ m.n ∨ m.base < 1 ∨ lastLSN < m.base ∨ masterB m ≠ b then .error 5 else .ok m := by rw [hm]; rfl
   rw [hrm]
   dsimp only
   rw [hmq, ← ek]
   have hmn : m.n < 4294967296 := by rw [hm]; exact lt_take (by decide)
   have hmb : m.base < 18446744073709551616 := by rw [hm]; exact lt_take (by decide)
   have hmc : m.check < 18446744073709551616 := by rw [hm]; exact lt_take (by decide)
   have hmk : m.kept < 4294967296 := by rw [hm]; exact lt_take (by decide)
   have hkf := ok1.few
   clear hq hrm hlen hmq emg hq0 hq3 hq4 hq5 hq6 hq7 hq8 hm
   unfold lastLSN
   have hse2 := Sectors h2 d { M with c1 := c } D1
   by_cases g0 : b.take 8 = magic
   rotate_left
   ·rw [decide_eq_false g0]
    unfold masV
    (repeat' first | refine X.rq ?_ | refine X.rc ?_ ?_ <;> intro hc <;> try omega)
    refine X.drawN ([blk B8 131 [.int .i64 m.n, .int .u64 m.base, .int .u64 m.check, .int .u32 m.kept, .bool m.wiped]]) [] (.pu 0 (.pu 1 (.pu 2 (.pu 3 (.st 4 (.pu 5 (.pu 6 (.pu 7 (.pu 8 (.pu 10 (.st 9 (.on 11 (.pu 12 (.pu 13 (.pu 14 (.pu 15 (.st 16 (.pu 17 (.pu 18 (.pu 19 (.pu 20 (.st 21 (.pu 22 (.pu 23 (.pu 24 (.pu 27 (.st 25 (.on 26 (.on 28 (.pu 29 (.pu 30 .nil))))))))))))))))))))))))))))))) ?_
    refine X.u_mv ?_
    refine X.u_nt ?_
    refine X.u_mv ?_
    refine X.g_fa ?_
    refine X.h_ld ?_
    refine X.g_blss ?_
    refine X.u_pk ?_
    refine X.u_mv ?_
    refine X.g_fa ?_
    refine X.g_mv ?_
    refine X.h_ld ?_
    refine K.d_on rfl (fun KK hKK => ?_)
    first | refine K.s_skip rfl rfl rfl ?_ | refine K.s_skipU rfl rfl rfl rfl ?_
    refine K.l_nil ?_
    refine X.onE hKK ?_
    refine X.g_bgeq ?_
    refine X.u_pk ?_
    refine X.u_mv ?_
    refine X.g_fa ?_
    refine X.h_ld ?_
    refine X.g_blss ?_
    refine X.u_pk ?_
    refine X.u_mv ?_
    refine X.g_fa ?_
    refine X.h_ld ?_
    refine X.g_bgtr ?_
    refine X.u_pk ?_
    refine X.u_mv ?_
    refine X.g_mv ?_
    refine X.h_ld ?_
    refine K.d_on rfl (fun KK hKK => ?_)
    first | refine K.s_skip rfl rfl rfl ?_ | refine K.s_skipU rfl rfl rfl rfl ?_
    refine K.l_nil ?_
    refine X.onE hKK ?_
    refine K.d_on rfl (fun KK hKK => ?_)
    first | refine K.s_skip rfl rfl rfl ?_ | refine K.s_skipU rfl rfl rfl rfl ?_
    refine K.l_nil ?_
    refine X.onE hKK ?_
    refine X.g_nt ?_
    refine X.u_pk ?_
    refine K.d_nil ?_
    (repeat' first | refine X.rq ?_ | refine X.rc ?_ ?_ <;> intro hc <;> try omega)
    refine K.WL.perm (K.pp [6] rfl) ?_
    refine X.stw ?_
    (repeat' first | refine X.rq ?_ | refine X.rc ?_ ?_ <;> intro hc <;> try omega)
    exact K.dc (vs := [.agg (masV mas0).toArray, .int .i64 5]) (.cell rfl (Fx.agg rfl) (Fx.sz rfl) (K.cels_own (pre := []) (post := []) 0 rfl rfl) (.tmp rfl .nil)) (le1.trans le2) (D := [_, _, _, _]) (H' := [_, _, _]) rfl ⟨by rw [if_pos (by exact .inl g0)]; rfl, _, rfl⟩
   by_cases g1 : 16 ≤ m.n
   rotate_left
   ·rw [decide_eq_true g0]
    unfold masV
    (repeat' first | refine X.rq ?_ | refine X.rc ?_ ?_ <;> intro hc <;> try omega)
    refine X.drawN ([blk B8 131 [.int .i64 m.n, .int .u64 m.base, .int .u64 m.check, .int .u32 m.kept, .bool m.wiped]]) [] (.pu 0 (.pu 1 (.pu 2 (.pu 3 (.st 4 (.pu 5 (.pu 6 (.pu 7 (.pu 8 (.pu 10 (.st 9 (.on 11 (.pu 12 (.pu 13 (.pu 14 (.pu 15 (.st 16 (.pu 17 (.pu 18 (.pu 19 (.pu 20 (.st 21 (.pu 22 (.pu 23 (.pu 24 (.pu 27 (.st 25 (.on 26 (.on 28 (.pu 29 (.pu 30 .nil))))))))))))))))))))))))))))))) ?_
    refine X.u_mv ?_
    refine X.u_nt ?_
    refine X.u_mv ?_
    refine X.g_fa ?_
    refine X.h_ld ?_
    refine X.g_blss ?_
    rw [decide_eq_true (show (m.n : Int) < 16 by omega)]
    refine X.u_pk ?_
    refine X.u_mv ?_
    refine X.g_fa ?_
    refine X.g_mv ?_
    refine X.h_ld ?_
    refine K.d_on rfl (fun KK hKK => ?_)
    first | refine K.s_skip rfl rfl rfl ?_ | refine K.s_skipU rfl rfl rfl rfl ?_
    refine K.l_nil ?_
    refine X.onE hKK ?_
    refine X.g_bgeq ?_
    refine X.u_pk ?_
    refine X.u_mv ?_
    refine X.g_fa ?_
    refine X.h_ld ?_
    refine X.g_blss ?_
    refine X.u_pk ?_
    refine X.u_mv ?_
    refine X.g_fa ?_
    refine X.h_ld ?_
    refine X.g_bgtr ?_
    refine X.u_pk ?_
    refine X.u_mv ?_
    refine X.g_mv ?_
    refine X.h_ld ?_
    refine K.d_on rfl (fun KK hKK => ?_)
    first | refine K.s_skip rfl rfl rfl ?_ | refine K.s_skipU rfl rfl rfl rfl ?_
    refine K.l_nil ?_
    refine X.onE hKK ?_
    refine K.d_on rfl (fun KK hKK => ?_)
    first | refine K.s_skip rfl rfl rfl ?_ | refine K.s_skipU rfl rfl rfl rfl ?_
    refine K.l_nil ?_
    refine X.onE hKK ?_
    refine X.g_nt ?_
    refine X.u_pk ?_
    refine K.d_nil ?_
    (repeat' first | refine X.rq ?_ | refine X.rc ?_ ?_ <;> intro hc <;> try omega)
    refine K.WL.perm (K.pp [6] rfl) ?_
    refine X.stw ?_
    (repeat' first | refine X.rq ?_ | refine X.rc ?_ ?_ <;> intro hc <;> try omega)
    exact K.dc (vs := [.agg (masV mas0).toArray, .int .i64 5]) (.cell rfl (Fx.agg rfl) (Fx.sz rfl) (K.cels_own (pre := []) (post := []) 0 rfl rfl) (.tmp rfl .nil)) (le1.trans le2) (D := [_, _, _, _]) (H' := [_, _, _]) rfl ⟨by rw [if_pos (by omega)]; rfl, _, rfl⟩
   by_cases g2 : m.n < D1.kept.length
   rotate_left
   ·rw [decide_eq_true g0]
    unfold masV
    (repeat' first | refine X.rq ?_ | refine X.rc ?_ ?_ <;> intro hc <;> try omega)
    refine X.drawN ([blk B8 131 [.int .i64 m.n, .int .u64 m.base, .int .u64 m.check, .int .u32 m.kept, .bool m.wiped]]) [] (.pu 0 (.pu 1 (.pu 2 (.pu 3 (.st 4 (.pu 5 (.pu 6 (.pu 7 (.pu 8 (.pu 10 (.st 9 (.on 11 (.pu 12 (.pu 13 (.pu 14 (.pu 15 (.st 16 (.pu 17 (.pu 18 (.pu 19 (.pu 20 (.st 21 (.pu 22 (.pu 23 (.pu 24 (.pu 27 (.st 25 (.on 26 (.on 28 (.pu 29 (.pu 30 .nil))))))))))))))))))))))))))))))) ?_
    refine X.u_mv ?_
    refine X.u_nt ?_
    refine X.u_mv ?_
    refine X.g_fa ?_
    refine X.h_ld ?_
    refine X.g_blss ?_
    rw [decide_eq_false (show ¬ ((m.n : Int) < 16) by omega)]
    refine X.u_pk ?_
    refine X.u_mv ?_
    refine X.g_fa ?_
    refine X.g_mv ?_
    refine X.h_ld ?_
    refine K.d_on rfl (fun KK hKK => ?_)
    refine K.s_take rfl rfl ?_
    refine K.l_callV (Fx.cal rfl) rfl (hse2) (K.pp [3, 3, 3] rfl) rfl rfl ?_
    refine K.WL.perm (K.pp [3, 3, 3] rfl) ?_
    simp only [Go.K.nmz]
    refine K.l_nil ?_
    refine X.onE hKK ?_
    refine X.g_bgeq ?_
    rw [decide_eq_true (show (m.n : Int) ≥ (D1.kept.length : Int) by omega)]
    refine X.u_pk ?_
    refine X.u_mv ?_
    refine X.g_fa ?_
    refine X.h_ld ?_
    refine X.g_blss ?_
    refine X.u_pk ?_
    refine X.u_mv ?_
    refine X.g_fa ?_
    refine X.h_ld ?_
    refine X.g_bgtr ?_
    refine X.u_pk ?_
    refine X.u_mv ?_
    refine X.g_mv ?_
    refine X.h_ld ?_
    refine K.d_on rfl (fun KK hKK => ?_)
    first | refine K.s_skip rfl rfl rfl ?_ | refine K.s_skipU rfl rfl rfl rfl ?_
    refine K.l_nil ?_
    refine X.onE hKK ?_
    refine K.d_on rfl (fun KK hKK => ?_)
    first | refine K.s_skip rfl rfl rfl ?_ | refine K.s_skipU rfl rfl rfl rfl ?_
    refine K.l_nil ?_
    refine X.onE hKK ?_
    refine X.g_nt ?_
    refine X.u_pk ?_
    refine K.d_nil ?_
    (repeat' first | refine X.rq ?_ | refine X.rc ?_ ?_ <;> intro hc <;> try omega)
    refine K.WL.perm (K.pp [6] rfl) ?_
    refine X.stw ?_
    (repeat' first | refine X.rq ?_ | refine X.rc ?_ ?_ <;> intro hc <;> try omega)
    exact K.dc (vs := [.agg (masV mas0).toArray, .int .i64 5]) (.cell rfl (Fx.agg rfl) (Fx.sz rfl) (K.cels_own (pre := []) (post := []) 0 rfl rfl) (.tmp rfl .nil)) (le1.trans le2) (D := [_, _, _, _]) (H' := [_, _, _]) rfl ⟨by rw [if_pos (by omega)]; rfl, _, rfl⟩
   by_cases g3 : 1 ≤ m.base
   rotate_left
   ·rw [decide_eq_true g0]
    unfold masV
    (repeat' first | refine X.rq ?_ | refine X.rc ?_ ?_ <;> intro hc <;> try omega)
    refine X.drawN ([blk B8 131 [.int .i64 m.n, .int .u64 m.base, .int .u64 m.check, .int .u32 m.kept, .bool m.wiped]]) [] (.pu 0 (.pu 1 (.pu 2 (.pu 3 (.st 4 (.pu 5 (.pu 6 (.pu 7 (.pu 8 (.pu 10 (.st 9 (.on 11 (.pu 12 (.pu 13 (.pu 14 (.pu 15 (.st 16 (.pu 17 (.pu 18 (.pu 19 (.pu 20 (.st 21 (.pu 22 (.pu 23 (.pu 24 (.pu 27 (.st 25 (.on 26 (.on 28 (.pu 29 (.pu 30 .nil))))))))))))))))))))))))))))))) ?_
    refine X.u_mv ?_
    refine X.u_nt ?_
    refine X.u_mv ?_
    refine X.g_fa ?_
    refine X.h_ld ?_
    refine X.g_blss ?_
    rw [decide_eq_false (show ¬ ((m.n : Int) < 16) by omega)]
    refine X.u_pk ?_
    refine X.u_mv ?_
    refine X.g_fa ?_
    refine X.g_mv ?_
    refine X.h_ld ?_
    refine K.d_on rfl (fun KK hKK => ?_)
    refine K.s_take rfl rfl ?_
    refine K.l_callV (Fx.cal rfl) rfl (hse2) (K.pp [3, 3, 3] rfl) rfl rfl ?_
    refine K.WL.perm (K.pp [3, 3, 3] rfl) ?_
    simp only [Go.K.nmz]
    refine K.l_nil ?_
    refine X.onE hKK ?_
    refine X.g_bgeq ?_
    rw [decide_eq_false (show ¬ ((m.n : Int) ≥ (D1.kept.length : Int)) by omega)]
    refine X.u_pk ?_
    refine X.u_mv ?_
    refine X.g_fa ?_
    refine X.h_ld ?_
    refine X.g_blss ?_
    rw [decide_eq_true (show (m.base : Int) < 1 by omega)]
    refine X.u_pk ?_
    refine X.u_mv ?_
    refine X.g_fa ?_
    refine X.h_ld ?_
    refine X.g_bgtr ?_
    refine X.u_pk ?_
    refine X.u_mv ?_
    refine X.g_mv ?_
    refine X.h_ld ?_
    refine K.d_on rfl (fun KK hKK => ?_)
    first | refine K.s_skip rfl rfl rfl ?_ | refine K.s_skipU rfl rfl rfl rfl ?_
    refine K.l_nil ?_
    refine X.onE hKK ?_
    refine K.d_on rfl (fun KK hKK => ?_)
    first | refine K.s_skip rfl rfl rfl ?_ | refine K.s_skipU rfl rfl rfl rfl ?_
    refine K.l_nil ?_
    refine X.onE hKK ?_
    refine X.g_nt ?_
    refine X.u_pk ?_
    refine K.d_nil ?_
    (repeat' first | refine X.rq ?_ | refine X.rc ?_ ?_ <;> intro hc <;> try omega)
    refine K.WL.perm (K.pp [6] rfl) ?_
    refine X.stw ?_
    (repeat' first | refine X.rq ?_ | refine X.rc ?_ ?_ <;> intro hc <;> try omega)
    exact K.dc (vs := [.agg (masV mas0).toArray, .int .i64 5]) (.cell rfl (Fx.agg rfl) (Fx.sz rfl) (K.cels_own (pre := []) (post := []) 0 rfl rfl) (.tmp rfl .nil)) (le1.trans le2) (D := [_, _, _, _]) (H' := [_, _, _]) rfl ⟨by rw [if_pos (by omega)]; rfl, _, rfl⟩
   by_cases g4 : m.base ≤ 4611686018427387904
   rotate_left
   ·rw [decide_eq_true g0]
    unfold masV
    (repeat' first | refine X.rq ?_ | refine X.rc ?_ ?_ <;> intro hc <;> try omega)
    refine X.drawN ([blk B8 131 [.int .i64 m.n, .int .u64 m.base, .int .u64 m.check, .int .u32 m.kept, .bool m.wiped]]) [] (.pu 0 (.pu 1 (.pu 2 (.pu 3 (.st 4 (.pu 5 (.pu 6 (.pu 7 (.pu 8 (.pu 10 (.st 9 (.on 11 (.pu 12 (.pu 13 (.pu 14 (.pu 15 (.st 16 (.pu 17 (.pu 18 (.pu 19 (.pu 20 (.st 21 (.pu 22 (.pu 23 (.pu 24 (.pu 27 (.st 25 (.on 26 (.on 28 (.pu 29 (.pu 30 .nil))))))))))))))))))))))))))))))) ?_
    refine X.u_mv ?_
    refine X.u_nt ?_
    refine X.u_mv ?_
    refine X.g_fa ?_
    refine X.h_ld ?_
    refine X.g_blss ?_
    rw [decide_eq_false (show ¬ ((m.n : Int) < 16) by omega)]
    refine X.u_pk ?_
    refine X.u_mv ?_
    refine X.g_fa ?_
    refine X.g_mv ?_
    refine X.h_ld ?_
    refine K.d_on rfl (fun KK hKK => ?_)
    refine K.s_take rfl rfl ?_
    refine K.l_callV (Fx.cal rfl) rfl (hse2) (K.pp [3, 3, 3] rfl) rfl rfl ?_
    refine K.WL.perm (K.pp [3, 3, 3] rfl) ?_
    simp only [Go.K.nmz]
    refine K.l_nil ?_
    refine X.onE hKK ?_
    refine X.g_bgeq ?_
    rw [decide_eq_false (show ¬ ((m.n : Int) ≥ (D1.kept.length : Int)) by omega)]
    refine X.u_pk ?_
    refine X.u_mv ?_
    refine X.g_fa ?_
    refine X.h_ld ?_
    refine X.g_blss ?_
    rw [decide_eq_false (show ¬ ((m.base : Int) < 1) by omega)]
    refine X.u_pk ?_
    refine X.u_mv ?_
    refine X.g_fa ?_
    refine X.h_ld ?_
    refine X.g_bgtr ?_
    rw [decide_eq_true (show (m.base : Int) > 4611686018427387904 by omega)]
    refine X.u_pk ?_
    refine X.u_mv ?_
    refine X.g_mv ?_
    refine X.h_ld ?_
    refine K.d_on rfl (fun KK hKK => ?_)
    first | refine K.s_skip rfl rfl rfl ?_ | refine K.s_skipU rfl rfl rfl rfl ?_
    refine K.l_nil ?_
    refine X.onE hKK ?_
    refine K.d_on rfl (fun KK hKK => ?_)
    first | refine K.s_skip rfl rfl rfl ?_ | refine K.s_skipU rfl rfl rfl rfl ?_
    refine K.l_nil ?_
    refine X.onE hKK ?_
    refine X.g_nt ?_
    refine X.u_pk ?_
    refine K.d_nil ?_
    (repeat' first | refine X.rq ?_ | refine X.rc ?_ ?_ <;> intro hc <;> try omega)
    refine K.WL.perm (K.pp [6] rfl) ?_
    refine X.stw ?_
    (repeat' first | refine X.rq ?_ | refine X.rc ?_ ?_ <;> intro hc <;> try omega)
    exact K.dc (vs := [.agg (masV mas0).toArray, .int .i64 5]) (.cell rfl (Fx.agg rfl) (Fx.sz rfl) (K.cels_own (pre := []) (post := []) 0 rfl rfl) (.tmp rfl .nil)) (le1.trans le2) (D := [_, _, _, _]) (H' := [_, _, _]) rfl ⟨by rw [if_pos (by omega)]; rfl, _, rfl⟩
   by_cases g5 : masterB m = b
   rotate_left
   ·rw [decide_eq_true g0]
    unfold masV
    (repeat' first | refine X.rq ?_ | refine X.rc ?_ ?_ <;> intro hc <;> try omega)
    refine X.drawN ([blk B8 131 [.int .i64 m.n, .int .u64 m.base, .int .u64 m.check, .int .u32 m.kept, .bool m.wiped]]) [] (.pu 0 (.pu 1 (.pu 2 (.pu 3 (.st 4 (.pu 5 (.pu 6 (.pu 7 (.pu 8 (.pu 10 (.st 9 (.on 11 (.pu 12 (.pu 13 (.pu 14 (.pu 15 (.st 16 (.pu 17 (.pu 18 (.pu 19 (.pu 20 (.st 21 (.pu 22 (.pu 23 (.pu 24 (.pu 27 (.st 25 (.on 26 (.on 28 (.pu 29 (.pu 30 .nil))))))))))))))))))))))))))))))) ?_
    refine X.u_mv ?_
    refine X.u_nt ?_
    refine X.u_mv ?_
    refine X.g_fa ?_
    refine X.h_ld ?_
    refine X.g_blss ?_
    rw [decide_eq_false (show ¬ ((m.n : Int) < 16) by omega)]
    refine X.u_pk ?_
    refine X.u_mv ?_
    refine X.g_fa ?_
    refine X.g_mv ?_
    refine X.h_ld ?_
    refine K.d_on rfl (fun KK hKK => ?_)
    refine K.s_take rfl rfl ?_
    refine K.l_callV (Fx.cal rfl) rfl (hse2) (K.pp [3, 3, 3] rfl) rfl rfl ?_
    refine K.WL.perm (K.pp [3, 3, 3] rfl) ?_
    simp only [Go.K.nmz]
    refine K.l_nil ?_
    refine X.onE hKK ?_
    refine X.g_bgeq ?_
    rw [decide_eq_false (show ¬ ((m.n : Int) ≥ (D1.kept.length : Int)) by omega)]
    refine X.u_pk ?_
    refine X.u_mv ?_
    refine X.g_fa ?_
    refine X.h_ld ?_
    refine X.g_blss ?_
    rw [decide_eq_false (show ¬ ((m.base : Int) < 1) by omega)]
    refine X.u_pk ?_
    refine X.u_mv ?_
    refine X.g_fa ?_
    refine X.h_ld ?_
    refine X.g_bgtr ?_
    rw [decide_eq_false (show ¬ ((m.base : Int) > 4611686018427387904) by omega)]
    refine X.u_pk ?_
    refine X.u_mv ?_
    refine X.g_mv ?_
    refine K.d_stG rfl rfl rfl (K.p_loadM (vs := masV m) (Fx.agg rfl) rfl (K.cels_own (pre := []) (cs := masV m) (post := []) 0 rfl rfl) (Fx.sz rfl) rfl) rfl ?_
    refine K.d_on rfl (fun KK hKK => ?_)
    refine K.s_take rfl rfl ?_
    refine K.l_call (Fx.cal rfl) rfl (MBytes h2 m ⟨by omega, hmb, hmc, hmk⟩) (K.pp [] rfl) rfl ?_
    rintro u h9 H' le9 ⟨rfl, ao9, ca9, rfl, hb9⟩
    simp only [List.nil_append]
    refine K.l_nil ?_
    refine X.onE hKK ?_
    refine K.d_on rfl (fun KK hKK => ?_)
    refine K.s_take rfl rfl ?_
    refine K.l_callV (Fx.cal rfl) rfl (Equal h9 _ _ _ _ hb9 (hb.le (le2.trans le9))) (K.pp [] rfl) rfl rfl ?_
    simp only [List.nil_append]
    rw [decide_eq_false g5]
    refine K.l_nil ?_
    refine X.onE hKK ?_
    refine X.g_nt ?_
    refine X.u_pk ?_
    refine K.d_nil ?_
    (repeat' first | refine X.rq ?_ | refine X.rc ?_ ?_ <;> intro hc <;> try omega)
    refine K.WL.perm (K.pp [6] rfl) ?_
    refine X.stw ?_
    (repeat' first | refine X.rq ?_ | refine X.rc ?_ ?_ <;> intro hc <;> try omega)
    exact K.dc (vs := [.agg (masV mas0).toArray, .int .i64 5]) (.cell rfl (Fx.agg rfl) (Fx.sz rfl) (K.cels_own (pre := []) (post := []) 0 rfl rfl) (.tmp rfl .nil)) (le1.trans (le2.trans le9)) (D := [_, _, _, _]) (H' := [_, _, _]) rfl ⟨by rw [if_pos (by exact .inr (.inr (.inr (.inr (.inr g5)))))]; rfl, _, rfl⟩
   rw [decide_eq_true g0]
   unfold masV
   (repeat' first | refine X.rq ?_ | refine X.rc ?_ ?_ <;> intro hc <;> try omega)
   refine X.drawN ([blk B8 131 [.int .i64 m.n, .int .u64 m.base, .int .u64 m.check, .int .u32 m.kept, .bool m.wiped]]) [] (.pu 0 (.pu 1 (.pu 2 (.pu 3 (.st 4 (.pu 5 (.pu 6 (.pu 7 (.pu 8 (.pu 10 (.st 9 (.on 11 (.pu 12 (.pu 13 (.pu 14 (.pu 15 (.st 16 (.pu 17 (.pu 18 (.pu 19 (.pu 20 (.st 21 (.pu 22 (.pu 23 (.pu 24 (.pu 27 (.st 25 (.on 26 (.on 28 (.pu 29 (.pu 30 .nil))))))))))))))))))))))))))))))) ?_
   refine X.u_mv ?_
   refine X.u_nt ?_
   refine X.u_mv ?_
   refine X.g_fa ?_
   refine X.h_ld ?_
   refine X.g_blss ?_
   rw [decide_eq_false (show ¬ ((m.n : Int) < 16) by omega)]
   refine X.u_pk ?_
   refine X.u_mv ?_
   refine X.g_fa ?_
   refine X.g_mv ?_
   refine X.h_ld ?_
   refine K.d_on rfl (fun KK hKK => ?_)
   refine K.s_take rfl rfl ?_
   refine K.l_callV (Fx.cal rfl) rfl (hse2) (K.pp [3, 3, 3] rfl) rfl rfl ?_
   refine K.WL.perm (K.pp [3, 3, 3] rfl) ?_
   simp only [Go.K.nmz]
   refine K.l_nil ?_
   refine X.onE hKK ?_
   refine X.g_bgeq ?_
   rw [decide_eq_false (show ¬ ((m.n : Int) ≥ (D1.kept.length : Int)) by omega)]
   refine X.u_pk ?_
   refine X.u_mv ?_
   refine X.g_fa ?_
   refine X.h_ld ?_
   refine X.g_blss ?_
   rw [decide_eq_false (show ¬ ((m.base : Int) < 1) by omega)]
   refine X.u_pk ?_
   refine X.u_mv ?_
   refine X.g_fa ?_
   refine X.h_ld ?_
   refine X.g_bgtr ?_
   rw [decide_eq_false (show ¬ ((m.base : Int) > 4611686018427387904) by omega)]
   refine X.u_pk ?_
   refine X.u_mv ?_
   refine X.g_mv ?_
   refine K.d_stG rfl rfl rfl (K.p_loadM (vs := masV m) (Fx.agg rfl) rfl (K.cels_own (pre := []) (cs := masV m) (post := []) 0 rfl rfl) (Fx.sz rfl) rfl) rfl ?_
   refine K.d_on rfl (fun KK hKK => ?_)
   refine K.s_take rfl rfl ?_
   refine K.l_call (Fx.cal rfl) rfl (MBytes h2 m ⟨by omega, hmb, hmc, hmk⟩) (K.pp [] rfl) rfl ?_
   rintro u h9 H' le9 ⟨rfl, ao9, ca9, rfl, hb9⟩
   simp only [List.nil_append]
   refine K.l_nil ?_
   refine X.onE hKK ?_
   refine K.d_on rfl (fun KK hKK => ?_)
   refine K.s_take rfl rfl ?_
   refine K.l_callV (Fx.cal rfl) rfl (Equal h9 _ _ _ _ hb9 (hb.le (le2.trans le9))) (K.pp [] rfl) rfl rfl ?_
   simp only [List.nil_append]
   rw [decide_eq_true g5]
   refine K.l_nil ?_
   refine X.onE hKK ?_
   refine X.g_nt ?_
   refine X.u_pk ?_
   refine K.d_nil ?_
   (repeat' first | refine X.rq ?_ | refine X.rc ?_ ?_ <;> intro hc <;> try omega)
   refine K.WL.perm (K.pp [6] rfl) ?_
   refine X.stw ?_
   (repeat' first | refine X.rq ?_ | refine X.rc ?_ ?_ <;> intro hc <;> try omega)
   exact K.dc (vs := [.agg (masV m).toArray, .int .i64 0]) (.cell rfl (Fx.agg rfl) (Fx.sz rfl) (K.cels_own (pre := []) (post := []) 0 rfl rfl) (.tmp rfl .nil)) (le1.trans (le2.trans le9)) (D := [_, _, _, _]) (H' := [_, _, _]) rfl ⟨by rw [if_neg (by rintro (h | h | h | h | h | h) <;> first | exact h g0 | exact h g5 | omega)]; rfl, _, rfl⟩
end Go.Proofs.YtijbhgiigddjdaaGreat.Wl
