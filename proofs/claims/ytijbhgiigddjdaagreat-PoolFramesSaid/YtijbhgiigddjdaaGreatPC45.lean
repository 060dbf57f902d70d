/-
  Texts joined: Sp Aa Ae Ak Ba Bb. Conditions: each theorem's own.
-/
import Derived.Test.YtijbhgiigddjdaaGreatPC38
import Derived.Test.YtijbhgiigddjdaaGreatPC33
import Derived.Test.YtijbhgiigddjdaaGreatPC44
set_option linter.unusedVariables false
set_option linter.unusedSimpArgs false
set_option maxRecDepth 10000
set_option maxHeartbeats 16000000
section
namespace Go.Proofs.YtijbhgiigddjdaaGreat.Wl
open Go.K Cc Rc

theorem StrAppend {n : NN} {E : Env} {h : Base} {H : List Asrt} {ops : Array Oper} {rest : List Oper} {Q : Exit → Act → World → Prop} {W : LM} {l bs : List UInt8} {t t2 ty : TypeId} {ps : String} {af : Array Edge} {d m : Nat} {x y : Operand} {yv : Value} (i : Nat) (hi : H[i]? = some W.sA)
  (hs : StrOk h W l) (hu : Tryz.prog.underlying t = some (.slice 5)) (hu2 : Tryz.prog.underlying t2 = some (.slice 5)) (hx : lkO E x = some W.sv) (hy : lkO E y = some yv) (hsrc : Src Tryz.prog h (H.eraseIdx i) 1 yv m (bs.map u8)) (h0 : 0 < m) (hm : l.length + m ≤ 1000000000000) (hd : Nat.blt d n = true)
  (hk : ∀ sv sA, StrOk h ⟨sv, sA, W.ar, W.kr⟩ (l ++ bs) → WL Tryz.prog n ops Q rest ((d, sv) :: E) h (H.set i sA)) :
  WL Tryz.prog n ops Q (⟨some d, .call ⟨.builtin .append, #[x, y], #[t, t2]⟩, ty, ps, af, none⟩ :: rest) E h H := by
 have hbl : bs.length = m := by have := hsrc.size; rw [List.length_map, Nat.mul_one] at this; exact this
 have hn : ∀ a' cap', StrOk h ⟨bufV a' (l.length + m) cap', bufA 5 1 a' (l.length + m) cap' (l.map u8 ++ bs.map u8), W.ar, W.kr⟩ (l ++ bs) := fun a' cap' => .inl ⟨a', cap', by rw [List.length_append, hbl], by rw [List.length_append, hbl, List.map_append]⟩
 have hdrop : ∀ {A : Asrt} {E' : Env}, WL Tryz.prog n ops Q rest E' h (H.set i A) → WL Tryz.prog n ops Q rest E' h (A :: H) := fun {A E'} hw =>
  WL.perm (List.Perm.cons A (at_perm hi)) (WL.perm (List.Perm.swap _ _ _) (WL.drop (WL.perm (set_perm hi) hw)))
 rcases hs with ⟨a, cap, e1, e2⟩ | ⟨ao, e1, hb, e2⟩
 ·rw [e1] at hx
  rw [e2] at hi
  exact l_append_at i hi hu hu2 rfl (Fx.sz rfl) (Fx.zr rfl) rfl (Fx.byt rfl) hx hy hsrc (by omega) (by omega) hd fun a' cap' => hk _ _ (hn a' cap')
 ·rw [e1] at hx hb
  have hsrc1 : Src Tryz.prog h H 1 yv m (bs.map u8) := hsrc.sub fun A hA => List.mem_of_mem_eraseIdx hA
  cases ao with
  | none =>
   have hl : l = [] := by
    rcases hb with ⟨_, _, _, hl⟩ | ⟨b, o, c, e, _, _⟩
    ·exact hl
    ·cases e
   subst hl
   refine K.WL.nilBuf 5 1 ?_
   refine l_append_at (a := none) (sLen := 0) (cap := 0) (cs := []) 0 rfl hu hu2 rfl (Fx.sz rfl) (Fx.zr rfl) rfl (Fx.byt rfl) hx hy hsrc1 (by omega) (by omega) hd fun a' cap' => ?_
   exact hdrop (hk _ _ (hn a' cap'))
  | some ad =>
   have hx0 : Src Tryz.prog h H 1 (.slice (some ad) l.length l.length) l.length (l.map u8) := by
    rcases hb with ⟨ao', c', e, hl⟩ | ⟨b, o, c, e, _, hc⟩
    ·subst hl; exact K.src_empty
    ·cases e
     exact K.src_cells (Cels.up hc) (by rw [List.length_map, Nat.mul_one]) (fun u hu => by obtain ⟨z, _, rfl⟩ := List.mem_map.1 hu; exact u8_one z)
   exact l_appendSrc hu hu2 rfl (Fx.sz rfl) (Fx.zr rfl) rfl (Fx.byt rfl) hx hy hx0 hsrc1 (by omega) (by omega) (by omega) hd fun a' cap' => hdrop (hk _ _ (hn a' cap'))
theorem enc_pos {r : Recd} (h : (encR r).2 = 0) : 3 ≤ (encR r).1.length := by
 unfold encR at h ⊢
 split
 ·unfold encN bodyN
  simp only [List.length_append, lebs_length, List.length_cons]
  omega
 ·rename_i hm; rw [if_neg hm] at h; cases h
def appQ (L : Lg) (r : Recd) : (Nat × Int) × Lg := if (encR r).2 ≠ 0 then ((0, (encR r).2), L) else if roomQ L < (encR r).1.length then ((0, 4), L) else ((endQ L, 0), { L with stream := L.stream ++ (encR r).1, starts := L.starts ++ [endQ L] })
theorem Append (h : Base) (p d : Nat) (W : LM) (L : Lg) (ho : LgOk L) (hs : StrOk h W L.stream) (cs : List Value) (r : Recd) (hx : RecC h cs r) (hsm : smallR r) :
  Tr Tryz.prog 30 [pv p, .agg cs.toArray] h (lgA p d W L) (fun u h' H' => h' = h ∧ u = .tuple #[n64 (appQ L r).1.1, .int .i64 (appQ L r).1.2] ∧ ∃ W', StrOk h W' (appQ L r).2.stream ∧ H' = lgA p d W' (appQ L r).2) := by
 have henc := RecEncode h cs r hx hsm
 have hno := LNone h p d W L
 have hro := LRoom h p d W L ho hs
 have hen := LEnd h p d W L ho hs
 have hst := ho.str
 have hsl := ho.sts
 have hmn := ho.mas.n
 have hpos := enc_pos (r := r)
 have hrle : roomQ L ≤ L.m.n * 510 := by unfold roomQ; split <;> omega
 obtain ⟨hw, ad, ai, al, ay, cd, ci, cl, cy, rfl, _⟩ := hx.cells
 refine K.en Tryz.func30 fun F => ?_
 (repeat' first | refine X.rq ?_ | refine X.rc ?_ ?_ <;> intro hc <;> try omega)
 refine K.l_box rfl rfl rfl (fun B3 => ?_)
 (repeat' first | refine X.rq ?_ | refine X.rc ?_ ?_ <;> intro hc <;> try omega)
 refine K.l_callV (Fx.cal rfl) rfl hno (K.pp [1, 1, 1] rfl) rfl rfl ?_
 refine K.WL.perm (K.pp [3] rfl) ?_
 (repeat' first | refine X.rq ?_ | refine X.rc ?_ ?_ <;> intro hc <;> try omega)
 refine K.l_call (Fx.cal rfl) rfl henc (K.pp [] rfl) rfl ?_
 rintro u h' H' - ⟨rfl, a, cap, rfl, rfl⟩
 simp only [Go.K.cna]
 simp only [Go.K.nmz]
 unfold appQ
 by_cases he : (encR r).2 = 0
 ·rw [if_neg (by omega), he]
  have hpos := hpos he
  (repeat' first | refine X.rq ?_ | refine X.rc ?_ ?_ <;> intro hc <;> try omega)
  all_goals try (exfalso; omega)
  refine K.l_callV (Fx.cal rfl) rfl hro (K.pp [2, 2, 2] rfl) rfl rfl ?_
  by_cases hrm : roomQ L < (encR r).1.length
  ·rw [if_pos hrm]
   (repeat' first | refine X.rq ?_ | refine X.rc ?_ ?_ <;> intro hc <;> try omega)
   all_goals try (exfalso; omega)
   refine K.AT.perm (K.pp [3, 3] rfl) ?_
   exact K.dc (vs := [n64 0, .int .i64 4]) (.tmp rfl (.tmp rfl .nil)) (K.Base.le.refl _) (D := [_, _]) (H' := [_, _, _]) rfl ⟨rfl, rfl, W, hs, rfl⟩
  ·rw [if_neg hrm]
   (repeat' first | refine X.rq ?_ | refine X.rc ?_ ?_ <;> intro hc <;> try omega)
   all_goals try (exfalso; omega)
   refine K.l_callV (Fx.cal rfl) rfl hen (K.pp [0, 0, 0] rfl) rfl rfl ?_
   unfold lgA lgV startsA
   simp only [Go.K.cna]
   (repeat' first | refine X.rq ?_ | refine X.rc ?_ ?_ <;> intro hc <;> try omega)
   refine K.l_buildSlice (cs := [n64 (endQ L)]) (Fx.und rfl) (Fx.sz rfl) rfl (Fx.zr rfl) rfl rfl rfl rfl rfl (fun B34 => ?_)
   refine K.l_append_at 3 rfl (Fx.und rfl) (Fx.und rfl) rfl (Fx.sz rfl) (Fx.zr rfl) rfl (Fx.byt rfl) rfl rfl (K.src_cells (m := 1) (K.cels_own (pre := []) (cs := [n64 (endQ L)]) (post := []) 0 rfl rfl) rfl (fun u hu => by rw [List.mem_singleton.1 hu]; rfl)) (by omega) (by omega) rfl (fun ar' kr' => ?_)
   simp only [Go.K.nmz]
   (repeat' first | refine X.rq ?_ | refine X.rc ?_ ?_ <;> intro hc <;> try omega)
   refine X.sto ?_
   simp only [Go.K.nmz]
   (repeat' first | refine X.rq ?_ | refine X.rc ?_ ?_ <;> intro hc <;> try omega)
   refine StrAppend (W := W) 2 rfl hs (Fx.und rfl) (Fx.und rfl) rfl rfl (K.src_buf 3 rfl (fun u hu => by obtain ⟨z, _, rfl⟩ := List.mem_map.1 hu; exact u8_one z) (by rw [List.length_map, Nat.mul_one])) (by omega) (by omega) rfl (fun sv sA hs' => ?_)
   have hs2 := hs'.len
   dsimp only at hs2
   obtain ⟨so2, sc2, rfl⟩ := hs2
   simp only [Go.K.nmz]
   (repeat' first | refine X.rq ?_ | refine X.rc ?_ ?_ <;> intro hc <;> try omega)
   refine X.sto ?_
   simp only [Go.K.nmz]
   (repeat' first | refine X.rq ?_ | refine X.rc ?_ ?_ <;> intro hc <;> try omega)
   rw [show L.starts.length + 1 = (L.starts ++ [endQ L]).length by simp, show L.starts.map n64 ++ [n64 (endQ L)] = (L.starts ++ [endQ L]).map n64 by simp]
   refine K.AT.perm (K.pp [0, 3, 3] rfl) ?_
   exact K.dc (vs := [n64 (endQ L), .int .i64 0]) (.tmp rfl (.tmp rfl .nil)) (K.Base.le.refl _) (D := [_, _, _]) (H' := [_, _, _]) rfl ⟨rfl, rfl, ⟨_, sA, ar', kr'⟩, hs', rfl⟩
 ·rw [if_pos he]
  (repeat' first | refine X.rq ?_ | refine X.rc ?_ ?_ <;> intro hc <;> try omega)
  all_goals try (exfalso; omega)
  refine K.AT.perm (K.pp [2, 2, 2] rfl) ?_
  refine K.AT.perm (K.pp [3, 3] rfl) ?_
  exact K.dc (vs := [n64 0, .int .i64 (encR r).2]) (.tmp rfl (.tmp rfl .nil)) (K.Base.le.refl _) (D := [_, _]) (H' := [_, _, _]) rfl ⟨rfl, rfl, W, hs, rfl⟩
end Go.Proofs.YtijbhgiigddjdaaGreat.Wl
end

section
namespace Go.Proofs.YtijbhgiigddjdaaGreat.Wl
open Go.K Cc Rc

theorem format_run {D : Dk} {n : Nat} (hk : DkOk D) (hc : D.cache = []) (hn : NoTrip D) (n1 : 16 ≤ n) (n2 : n < D.kept.length) :
  (formatQ n D).1 = 0 ∧ NoTrip (formatQ n D).2 ∧ (formatQ n D).2.kept.length = D.kept.length ∧ Run (formatQ n D).2 ⟨master0 n, [], [], 1⟩ [] 0 := by
 have hf := hk.few
 have e : formatQ n D = stepsQ [wipeS n, writeS (master0 n), syncS] D := by unfold formatQ; rw [if_neg (by omega), Int.toNat_natCast]
 have hok : DkOk (formatQ n D).2 := by
  rw [e]
  exact (steps_ok (fun s hs => by
   simp only [List.mem_cons, List.not_mem_nil, or_false] at hs
   rcases hs with rfl | rfl | rfl
   ·exact wipeS_good _
   ·exact writeS_good _
   ·exact syncS_good) hk (by rw [hc]; simp only [sumK, wipeS, writeS, syncS, List.length_nil]; unfold roomMax; omega)).1
 rw [e] at hok ⊢
 obtain ⟨w1, w2, w3, w4⟩ := wipe_ran n 0 (D := D) (by omega)
 obtain ⟨w5, w6⟩ := w1.on hn
 have w4 := w4 w5
 rw [steps_one, show (wipeS n).q D = wipeQ n 0 D from rfl, if_neg (by omega), steps_one] at hok ⊢
 generalize wipeQ n 0 D = r1 at w1 w2 w3 w4 w5 w6 hok ⊢
 have hml := master_len (master0 n)
 obtain ⟨t1, t2, t3⟩ := write_sem (D := r1.2) (a := 0) (by rw [w2]; omega) hml
 obtain ⟨t5, t6⟩ := t1.on w6
 have v3 := write_view (D := r1.2) (a := 0) (by rw [w2]; omega) hml t5
 rw [show (writeS (master0 n)).q r1.2 = writeQ r1.2 ((0 : Nat) : Int) (masterB (master0 n)) from rfl, if_neg (by omega), steps_one] at hok ⊢
 generalize writeQ r1.2 ((0 : Nat) : Int) (masterB (master0 n)) = r2 at t1 t2 t3 t5 t6 v3 hok ⊢
 obtain ⟨u1, u2⟩ := sync_sem r2.2
 obtain ⟨u5, u6⟩ := u1.on t6
 rw [show syncS.q r2.2 = syncQ r2.2 from rfl, if_neg (by omega), steps_nil] at hok ⊢
 have kl : (syncQ r2.2).2.kept.length = D.kept.length ∧ (syncQ r2.2).2.cache = [] := by
  rcases u2 with ⟨_, h, h'⟩ | ⟨h, _, _⟩
  ·exact ⟨by rw [h, setL_len, t2, w2], h'⟩
  ·omega
 refine ⟨rfl, u6, kl.1, hok, kl.2, n1, by rw [kl.1]; exact n2, ⟨by show n ≤ 8192; omega, by show (1 : Nat) < _; decide, by show (0 : Nat) < _; decide, by show (0 : Nat) < _; decide⟩, rfl, Nat.le_refl _, by show 1 + 0 ≤ lastLSN; decide, (fun _ h => by cases h), rfl, rfl, Nat.le_refl _, rfl, .inl rfl, Nat.zero_le _, ?_, fun i hi => ?_⟩
 ·rw [sync_view (by rw [t2, w2]; omega), v3, if_pos rfl]
 ·have hi : i < n := hi
  rw [sync_view (by rw [t2, w2]; omega), v3, if_neg (by omega), w4, if_pos (by omega)]
  exact (sec_zs (Nat.zero_le _)).symm
theorem append_run {D : Dk} {L : Lg} {rs : List Recd} {m : Nat} {r : Recd} (h : Run D L rs m) (hw : wfX r) (he : (encR r).2 = 0) (hr : (encR r).1.length ≤ roomQ L) : Run D (appQ L r).2 (rs ++ [r]) m := by
 have h3 := enc_pos he
 have hmay : mayR r = true := by
  unfold encR at he
  split at he
  ·assumption
  ·cases he
 have hen : (encR r).1 = encN r := by unfold encR; rw [if_pos hmay]
 rw [hen] at hr h3
 have hap : (appQ L r).2 = { L with stream := L.stream ++ encN r, starts := L.starts ++ [endQ L] } := by
  unfold appQ; rw [if_neg (by omega), if_neg (by rw [hen]; omega), hen]
 have hsl : L.stream.length = lenQ rs := by rw [h.str]; rfl
 have hend : endQ L = L.m.base + lenQ rs := by unfold endQ; rw [hsl]
 have hroom : endQ L + (encN r).length ≤ lastLSN ∧ lenQ rs + (encN r).length ≤ L.m.n * 510 := by
  unfold roomQ at hr
  split at hr
  ·omega
  ·rw [hsl] at hr; omega
 have hmt : (rs ++ [r]).take m = rs.take m := List.take_append_of_le_length h.few
 rw [hap]
 refine ⟨h.ok, h.cache, h.n1, h.n2, h.mas, h.wip, h.base, ?_, h.right.snoc hmay hw, ?_, ?_, by rw [List.length_append]; have := h.few; omega, by rw [hmt]; exact h.dur, by rw [hmt]; exact h.chk, by rw [len_snoc]; exact hroom.2, h.v0, by rw [hmt]; exact h.vi⟩
 ·show L.m.base + (L.stream ++ encN r).length ≤ lastLSN
  rw [List.length_append, hsl]; omega
 ·show L.stream ++ encN r = _
  rw [bytes_snoc, h.str]
 ·show L.starts ++ [endQ L] = _
  rw [starts_snoc, h.sts, hend]
end Go.Proofs.YtijbhgiigddjdaaGreat.Wl
end

section
namespace Go.Proofs.YtijbhgiigddjdaaGreat.Wl
open Go.K Cc Rc

theorem Run.cut {D : Dk} {L : Lg} {rs : List Recd} {m : Nat} (h : Run D L rs m) : Run D ⟨L.m, bytesQ (rs.take m), startsQ L.m.base (rs.take m), L.durable⟩ (rs.take m) m := by
 have hl := len_take_le rs m
 have h1 := h.fin'
 have h2 := h.len
 have ht : (rs.take m).take m = rs.take m := by rw [List.take_take, Nat.min_self]
 refine ⟨h.ok, h.cache, h.n1, h.n2, h.mas, h.wip, h.base, ?_, h.right.take m, rfl, rfl, by rw [List.length_take]; have := h.few; omega, by rw [ht]; exact h.dur, by rw [ht]; exact h.chk, by show lenQ (rs.take m) ≤ L.m.n * 510; omega, h.v0, by rw [ht]; exact h.vi⟩
 show L.m.base + lenQ (rs.take m) ≤ lastLSN
 omega
theorem open_mas {D D2 : Dk} {L L2 : Lg} {rs : List Recd} {m : Nat} {l : List Recd} (h : Run D L rs m) (ho : Opens D (.ok (L2, l)) D2) : L2.m = L.m := by
 obtain ⟨_, _, h3⟩ := rm_sem h.v0 h.mas h.n1 h.n2 h.base (by have := h.fin'; omega)
 cases ho with
 | ok hm _ _ _ _ _ =>
  rcases h3 with ⟨e, _⟩ | ⟨e, _⟩
  ·rw [hm] at e
   cases e
   show { L.m with wiped := false } = L.m
   rw [← h.wip]
  ·rw [hm] at e; cases e
theorem open_run {D D2 : Dk} {L : Lg} {rs : List Recd} {m : Nat} {r : Except Int (Lg × List Recd)} (h : Run D L rs m) (hn : NoTrip D) (ho : Opens D r D2) :
  NoTrip D2 ∧ D2.kept.length = D.kept.length ∧ ∃ L2, r = .ok (L2, foundQ L.m.base (rs.take m)) ∧ Run D2 L2 (rs.take m) m ∧ L2.m = L.m := by
 have hc := h.cut
 have hl : (rs.take m).length = m := by rw [List.length_take]; have := h.few; omega
 obtain ⟨_, h2, _, h4, h5⟩ := open_dead (brk := none) ho h.ok h.cache (.inl (hc.dead none)) h.n1 h.n2 h.base hc.fin' h.mas.kept (fun x hx => by cases hx) hc.right hc.few hc.len
 refine ⟨h4 hn, h2, ?_⟩
 rcases h5 with ⟨j, L2, h6, h7, rfl, h8, h9, h10, h11⟩ | ⟨x, _, hx, _⟩ | ⟨_, _, hx⟩
 ·obtain rfl : j = m := by omega
  rw [List.take_take, Nat.min_self] at ho h8 ⊢
  exact ⟨L2, rfl, h8, open_mas h ho⟩
 ·cases hx
 ·exact absurd hn hx
end Go.Proofs.YtijbhgiigddjdaaGreat.Wl
end

section
namespace Go.Proofs.YtijbhgiigddjdaaGreat.Wl
open Go.K Cc Rc

end Go.Proofs.YtijbhgiigddjdaaGreat.Wl
end

section
namespace Go.Proofs.YtijbhgiigddjdaaGreat.Wl
open Go.K Cc Rc

theorem fold_none (i : Nat) : ∀ (l : List Loo) (x : Sec), (∀ e ∈ l, e.1 ≠ i) → l.foldl (fun x l => if l.1 = i then l.2 else x) x = x
 | [], x, _ => rfl
 | y :: l, x, h => by
  rw [List.foldl_cons, if_neg (h y (List.mem_cons_self ..)), fold_none i l x fun e he => h e (List.mem_cons_of_mem _ he)]
theorem cand_one {D : Dk} {i : Nat} {s : Sec} (hi : i < D.kept.length) (hc : ∀ e ∈ D.cache, e.1 ≠ i) (h : Cand D i s) : s = V D i := by
 unfold V viewQ
 rw [fold_none i _ _ hc]
 rcases h with h | h
 ·rw [List.getD_eq_getElem?_getD, h]; rfl
 ·exact absurd rfl (hc _ h)
structure RunP (D : Dk) (L : Lg) (rs : List Recd) (m : Nat) : Prop where
 ok : DkOk D
 cache : ∀ e ∈ D.cache, L.m.n < e.1
 n1 : 16 ≤ L.m.n
 n2 : L.m.n < D.kept.length
 mas : MasOk L.m
 wip : L.m.wiped = false
 base : 1 ≤ L.m.base
 fin : endQ L ≤ lastLSN
 right : RightL rs
 str : L.stream = bytesQ rs
 sts : L.starts = startsQ L.m.base rs
 few : m ≤ rs.length
 dur : L.durable = L.m.base + lenQ (rs.take m)
 chk : L.m.check = 0 ∨ L.m.check ∈ startsQ L.m.base (rs.take m)
 len : lenQ rs ≤ L.m.n * 510
 v0 : V D 0 = masterB L.m
 vi : ∀ i, i < L.m.n → V D (1 + i) = secB (bytesQ (rs.take m)) i
theorem Run.toP {D : Dk} {L : Lg} {rs : List Recd} {m : Nat} (h : Run D L rs m) : RunP D L rs m :=
 ⟨h.ok, (fun e he => by rw [h.cache] at he; cases he), h.n1, h.n2, h.mas, h.wip, h.base, h.fin, h.right, h.str, h.sts, h.few, h.dur, h.chk, h.len, h.v0, h.vi⟩
theorem RunP.dead {D : Dk} {L : Lg} {rs : List Recd} {m : Nat} (h : RunP D L rs m) (brk : Option Nat) : AInv D L.m.n L.m.base L.m.kept rs m brk := by
 have hlt := h.n2
 refine ⟨fun s hs => .inl ⟨L.m.check, h.chk, ?_⟩, fun i hi s hs => ⟨lenQ (rs.take m), Nat.le_refl _, len_take_le rs m, ?_⟩⟩
 ·have h1 := cand_one (by omega) (fun e he h0 => by have := h.cache e he; omega) hs
  rw [h1, h.v0]
  have hw := h.wip
  obtain ⟨⟨n, base, check, kept, wiped⟩, st, ss, du⟩ := L
  dsimp only at hw ⊢
  rw [hw]
 ·have h1 := cand_one (by omega) (fun e he h0 => by have := h.cache e he; omega) hs
  rw [h1, h.vi i hi, bytes_take]
theorem flush_runP {D : Dk} {L : Lg} {rs : List Recd} {m : Nat} (h : RunP D L rs m) (hcl : D.cache.length + 20000 ≤ roomMax) : Pow D ((flushQ L D).1, (flushQ L D).2.2) ∧ (flushQ L D).2.2.kept.length = D.kept.length ∧ DkOk (flushQ L D).2.2 ∧
    (flushQ L D).2.2.cache.length ≤ D.cache.length + 9000 ∧ (∀ i s, L.m.n < i → Cand (flushQ L D).2.2 i s → Cand D i s) ∧
    (((flushQ L D).1 = 0 ∧ (flushQ L D).2.1 = { L with durable := endQ L } ∧ RunP (flushQ L D).2.2 { L with durable := endQ L } rs rs.length ∧ ∀ i, L.m.n < i → i < D.kept.length → V (flushQ L D).2.2 i = V D i) ∨
     ((flushQ L D).1 = 8 ∧ AInv (flushQ L D).2.2 L.m.n L.m.base L.m.kept rs m none)) := by
  have hsl : L.stream.length = lenQ rs := by rw [h.str]; rfl
  have hend : endQ L = L.m.base + lenQ rs := by unfold endQ; rw [hsl]
  have hlt := len_take_le rs m
  have hdur := h.dur
  have hlen := h.len
  have hn2 := h.n2
  have hfe := h.ok.few
  have htl : rs.take rs.length = rs := List.take_length
  have hck : L.m.check = 0 ∨ L.m.check ∈ startsQ L.m.base rs := h.chk.imp id fun x => by rw [starts_take] at x; exact List.mem_of_mem_take x
  have mk : ∀ {D' : Dk}, DkOk D' → (∀ e ∈ D'.cache, L.m.n < e.1) → D'.kept.length = D.kept.length → V D' 0 = masterB L.m → (∀ i, i < L.m.n → V D' (1 + i) = secB (bytesQ rs) i) → RunP D' { L with durable := endQ L } rs rs.length := fun a b c d e =>
    ⟨a, b, h.n1, by rw [c]; exact hn2, h.mas, h.wip, h.base, h.fin, h.right, h.str, h.sts, Nat.le_refl _, by rw [htl]; exact hend, by rw [htl]; exact hck, hlen, d, by rw [htl]; exact e⟩
  unfold flushQ
  by_cases hd : L.durable = endQ L
  · rw [if_pos hd]
    have e1 : { L with durable := endQ L } = L := by rw [← hd]
    have e2 : bytesQ (rs.take m) = bytesQ rs := by
      have := bytes_take rs m
      rw [show lenQ (rs.take m) = lenQ rs by omega] at this
      rw [← this]; exact List.take_length
    exact ⟨⟨.inl rfl, fun hn => ⟨rfl, hn⟩⟩, rfl, h.ok, by dsimp only; omega, fun i s _ hs => hs, .inl ⟨rfl, e1.symm, mk h.ok h.cache rfl h.v0 fun i hi => by rw [h.vi i hi, e2], fun i _ _ => rfl⟩⟩
  rw [if_neg hd]
  have hf0 : firstQ L = lenQ (rs.take m) / 510 := by unfold firstQ; rw [hdur, Nat.add_sub_cancel_left]
  have hsc : secs L.stream = (lenQ rs + 509) / 510 := by unfold secs; rw [hsl]
  rw [hf0, hsc]
  obtain ⟨f0, hf⟩ : ∃ f0, f0 = lenQ (rs.take m) / 510 := ⟨_, rfl⟩
  obtain ⟨sc, hs⟩ : ∃ sc, sc = (lenQ rs + 509) / 510 := ⟨_, rfl⟩
  rw [← hf, ← hs]
  obtain ⟨k1, k2, k3⟩ := fl_ok L.stream (sc - f0) f0 h.ok (by omega)
  obtain ⟨w1, w2, w3, w4⟩ := fl_ran L.stream (sc - f0) f0 (D := D) (by omega)
  generalize flQ L.stream (sc - f0) f0 D = r1 at k1 k2 k3 w1 w2 w3 w4 ⊢
  have hcand : ∀ i s, L.m.n < i → Cand r1.2 i s → Cand D i s := fun i s hi hx => by
    rcases w3 i s hx with h | ⟨h1, h2, _⟩
    · exact h
    · omega
  have ain : AInv r1.2 L.m.n L.m.base L.m.kept rs m none := by
    have h0 := h.dead none
    refine ⟨fun s hx => ?_, fun i hi s hx => ?_⟩
    · rcases w3 0 s hx with h | h
      · exact h0.mas s h
      · omega
    · rcases w3 _ s hx with h | ⟨_, _, h⟩
      · exact h0.sec i hi s h
      · rw [Nat.add_sub_cancel_left] at h
        exact ⟨lenQ rs, hlt, Nat.le_refl _, by rw [h, ‹RunP D L rs m›.str, List.take_of_length_le (show (bytesQ rs).length ≤ lenQ rs from Nat.le_refl _)]⟩
  by_cases hw : r1.1 = 0
  rotate_left
  · rw [if_pos hw]
    exact ⟨w1, k3, k1, by dsimp only; omega, hcand, .inr ⟨by rcases w1.err with h | h; exact absurd h hw; exact h.1, ain⟩⟩
  rw [if_neg (by omega)]
  have w4 := w4 hw
  obtain ⟨u1, u2⟩ := sync_sem r1.2
  obtain ⟨o1, o2, o3⟩ := sync_ok k1
  by_cases hy : (syncQ r1.2).1 = 0
  rotate_left
  · rw [if_pos hy]
    exact ⟨w1.trans u1, o3.trans k3, o1, by dsimp only; omega, fun i s hi hx => hcand i s hi (sync_cand hx), .inr ⟨by rcases u1.err with h | h; exact absurd h hy; exact h.1, ⟨fun s hx => ain.mas s (sync_cand hx), fun i hi s hx => ain.sec i hi s (sync_cand hx)⟩⟩⟩
  rw [if_neg (by omega)]
  have hc0 : (syncQ r1.2).2.cache = [] := by
    rcases u2 with ⟨_, _, h⟩ | ⟨h, _, _⟩
    · exact h
    · omega
  refine ⟨⟨.inl rfl, fun hn => ⟨rfl, ((w1.trans u1).on hn).2⟩⟩, o3.trans k3, o1, by rw [hc0]; exact Nat.zero_le _, fun i s hi hx => hcand i s hi (sync_cand hx), .inl ⟨rfl, rfl, mk o1 (by rw [hc0]; intro e he; cases he) (o3.trans k3) ?_ (fun i hi => ?_), fun i hi hi2 => ?_⟩⟩
  · rw [sync_view (by rw [k3]; omega), w4, if_neg (by omega)]; exact h.v0
  · rw [sync_view (by rw [k3]; omega), w4]
    by_cases hi2 : 1 + f0 ≤ 1 + i ∧ 1 + i < 1 + f0 + (sc - f0)
    · rw [if_pos hi2, Nat.add_sub_cancel_left, h.str]
    · rw [if_neg hi2, h.vi i hi]
      apply part_same
      rw [← bytes_take rs m, part_take']
      unfold partB
      by_cases hif : i < f0
      · rw [show min 510 (lenQ (rs.take m) - i * 510) = 510 by omega]
      · have hl0 : (bytesQ rs).drop (i * 510) = [] := List.drop_of_length_le (by show lenQ rs ≤ _; omega)
        rw [hl0]; simp
  · rw [sync_view (by rw [k3]; exact hi2), w4, if_neg (by omega)]
end Go.Proofs.YtijbhgiigddjdaaGreat.Wl
end

section
namespace Go.Proofs.YtijbhgiigddjdaaGreat.Wl
open Go.K Cc Rc

structure Oth (n : Nat) (D D' : Dk) : Prop where
 len : D'.kept.length = D.kept.length
 view : ∀ i, n < i → i < D.kept.length → V D' i = V D i
 cand : ∀ i s, n < i → Cand D' i s → Cand D i s
theorem Oth.refl (n : Nat) (D : Dk) : Oth n D D := ⟨rfl, fun _ _ _ => rfl, fun _ _ _ h => h⟩
theorem Oth.trans {n : Nat} {D D' D2 : Dk} (h : Oth n D D') (h' : Oth n D' D2) : Oth n D D2 :=
 ⟨h'.len.trans h.len, fun i hi hl => (h'.view i hi (by rw [h.len]; exact hl)).trans (h.view i hi hl), fun i s hi hs => h.cand i s hi (h'.cand i s hi hs)⟩
theorem oth_same {n : Nat} {D D' : Dk} (h1 : D'.kept = D.kept) (h2 : D'.cache = D.cache) : Oth n D D' := ⟨by rw [h1], fun i _ _ => V.of h1 h2 i, fun i s _ h => h.of h1 h2⟩
theorem oth_write {n a : Nat} {D : Dk} {b : Sec} (ha : a ≤ n) (hl : a < D.kept.length) (hb : b.length = 512) : Oth n D (writeQ D (a : Nat) b).2 := by
 obtain ⟨_, h1, h2⟩ := write_sem hl hb
 refine ⟨by rw [h1], fun i hi hil => ?_, fun i s hi hs => ?_⟩
 ·rcases h2 with ⟨_, e⟩ | ⟨_, e⟩
  ·unfold V
   rw [h1, e, view_snoc, if_neg (by dsimp only; omega)]
  ·exact V.of h1 e i
 ·rcases write_cand hl hb hs with h | ⟨h, _⟩
  ·exact h
  ·omega
theorem oth_sync {n : Nat} {D : Dk} : Oth n D (syncQ D).2 := by
 refine ⟨?_, fun i _ hil => sync_view hil, fun i s _ hs => sync_cand hs⟩
 rcases (sync_sem D).2 with ⟨_, h1, _⟩ | ⟨_, h1, _⟩
 ·rw [h1, setL_len]
 ·rw [h1]
theorem oth_wipe {n : Nat} : ∀ (k i : Nat) {D : Dk}, i + k ≤ n → n < D.kept.length → Oth n D (wipeQ k i D).2
 | 0, i, D, _, _ => .refl n D
 | k + 1, i, D, h, hn => by
  have h1 := oth_write (n := n) (a := 1 + i) (D := D) (b := zs) (by omega) (by omega) zs_len
  rw [wipeQ]
  split
  ·exact h1
  ·exact h1.trans (oth_wipe k (i + 1) (by omega) (by rw [h1.len]; exact hn))
theorem oth_steps {n : Nat} : ∀ (l : List Stp) {D : Dk}, (∀ s ∈ l, ∀ D, n < D.kept.length → Oth n D (s.q D).2) → n < D.kept.length → Oth n D (stepsQ l D).2
 | [], D, _, _ => .refl n D
 | s :: l, D, h, hn => by
  have h1 := h s (List.mem_cons_self ..) D hn
  rw [stepsQ]
  split
  ·exact h1
  ·exact h1.trans (oth_steps l (fun s hs => h s (List.mem_cons_of_mem _ hs)) (by rw [h1.len]; exact hn))
theorem oth_wipeS {n k : Nat} (hk : k ≤ n) (D : Dk) (hn : n < D.kept.length) : Oth n D ((wipeS k).q D).2 := oth_wipe k 0 (by omega) hn
theorem oth_writeS {n : Nat} (m : Mas) (D : Dk) (hn : n < D.kept.length) : Oth n D ((writeS m).q D).2 := oth_write (a := 0) (Nat.zero_le _) (by omega) (master_len m)
theorem oth_syncS {n : Nat} (D : Dk) (hn : n < D.kept.length) : Oth n D (syncS.q D).2 := oth_sync
theorem oth_mend {n : Nat} (l : List UInt8) : ∀ (old : List Sec) (i : Nat) {D : Dk}, i + old.length ≤ n → n < D.kept.length → Oth n D (mendQ l old i D).2
 | [], i, D, _, _ => by
  rw [mendQ]
  split
  ·exact oth_sync
  ·exact .refl n D
 | o :: r, i, D, h, hn => by
  rw [List.length_cons] at h
  rw [mendQ]
  split
  ·exact oth_mend l r (i + 1) (by omega) hn
  ·have h1 := oth_write (n := n) (a := 1 + i) (D := D) (b := secB l i) (by omega) (by omega) (sec_len l i)
   split
   ·exact h1
   ·exact h1.trans (oth_mend l r (i + 1) (by omega) (by rw [h1.len]; exact hn))
theorem oth_pre {n : Nat} {m : Mas} (hm : m.n ≤ n) {D : Dk} (hn : n < D.kept.length) : Oth n D (preQ m D).2 := by
 unfold preQ
 split
 ·refine oth_steps _ (fun s hs D hn => ?_) hn
  simp only [List.mem_cons, List.not_mem_nil, or_false] at hs
  rcases hs with rfl | rfl | rfl | rfl
  ·exact oth_wipeS hm D hn
  ·exact oth_syncS D hn
  ·exact oth_writeS _ D hn
  ·exact oth_syncS D hn
 ·exact .refl n D
theorem oth_format {n : Nat} {D : Dk} (h1 : 16 ≤ n) (hn : n < D.kept.length) : Oth n D (formatQ n D).2 := by
 unfold formatQ
 rw [if_neg (by omega), Int.toNat_natCast]
 refine oth_steps _ (fun s hs D hn => ?_) hn
 simp only [List.mem_cons, List.not_mem_nil, or_false] at hs
 rcases hs with rfl | rfl | rfl
 ·exact oth_wipeS (Nat.le_refl _) D hn
 ·exact oth_writeS _ D hn
 ·exact oth_syncS D hn
theorem oth_open {n : Nat} {D D2 : Dk} {r : Except Int (Lg × List Recd)} (ho : Opens D r D2) (hk : DkOk D) (hr : D.cache.length + 30000 ≤ roomMax) (hm : ∀ m, (rmQ D).1 = .ok m → m.n ≤ n) (hn : n < D.kept.length) : Oth n D D2 := by
 obtain ⟨r1, r2, r3⟩ := rm_ok hk
 have o1 : Oth n D (rmQ D).2 := oth_same r3 r2
 have hn1 : n < (rmQ D).2.kept.length := by rw [r3]; exact hn
 have step : ∀ m, (rmQ D).1 = .ok m → Oth n D (raQ m.n 0 [] [] false (preQ m (rmQ D).2).2).2 ∧ n < (raQ m.n 0 [] [] false (preQ m (rmQ D).2).2).2.kept.length ∧ ∀ old st, (raQ m.n 0 [] [] false (preQ m (rmQ D).2).2).1 = .ok (old, st) → old.length ≤ n := fun m h => by
  obtain ⟨m1, m2, _, _, _⟩ := rm_mas hk h
  have o2 := oth_pre (hm m h) hn1
  obtain ⟨p1, _, _⟩ := pre_ok (m := m) r1 m1.n (by rw [r2]; omega)
  obtain ⟨a1, a2, a3, _, a5⟩ := ra_ok m.n 0 [] [] false p1
  refine ⟨o1.trans (o2.trans (oth_same a3 a2)), by rw [a3, o2.len]; exact hn1, fun old st he => ?_⟩
  have := (a5 old st he).1
  have := hm m h
  simp at *; omega
 cases ho with
 | noMaster h => exact o1
 | noWipe h _ => exact o1.trans (oth_pre (hm _ h) hn1)
 | noRead h _ _ => exact (step _ h).1
 | noPart h _ _ _ _ => exact (step _ h).1
 | noMend h _ h2 _ _ _ => exact (step _ h).1.trans (oth_mend _ _ 0 (by have := (step _ h).2.2 _ _ h2; omega) (step _ h).2.1)
 | ok h _ h2 _ _ _ => exact (step _ h).1.trans (oth_mend _ _ 0 (by have := (step _ h).2.2 _ _ h2; omega) (step _ h).2.1)
end Go.Proofs.YtijbhgiigddjdaaGreat.Wl
end
