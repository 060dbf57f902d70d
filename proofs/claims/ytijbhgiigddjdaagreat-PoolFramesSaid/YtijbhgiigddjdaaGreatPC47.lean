/-
  Texts joined: Af Ok Or Ol Op. Conditions: each theorem's own.
-/
import Derived.Test.YtijbhgiigddjdaaGreatPC45
import Derived.Test.YtijbhgiigddjdaaGreatPC46
import Derived.Test.YtijbhgiigddjdaaGreatPC26
import Derived.Test.YtijbhgiigddjdaaGreatPC41
import Derived.Test.YtijbhgiigddjdaaGreatPC9
set_option linter.unusedVariables false
set_option linter.unusedSimpArgs false
set_option maxRecDepth 10000
set_option maxHeartbeats 16000000
section
namespace Go.Proofs.YtijbhgiigddjdaaGreat.Wl
open Go.K Pg Cc Rc

def rA2 : Recd := ⟨1, 0, 1, 0, 0, 0, 0, zO, [], [], [], 0⟩
theorem wfR_plain (r : Recd) (h1 : in64 r.kind) (h2 : r.lsn = 0) (h3 : r.txn < 1000) (h4 : r.prev = 0) (h5 : r.undo = 0) (h6 : r.page < 1000) (h7 : r.root = 0) (h8 : r.op = zO) (h9 : r.images = []) (h10 : r.lives = []) (h11 : r.dirty = []) (h12 : r.next = 0) : wfR r := by
 refine ⟨h1, by omega, by omega, by omega, by omega, by omega, by omega, by rw [h8]; exact wf_zO, by omega, ?_, ?_, ?_, ?_, ?_⟩
 ·rw [h9]; exact Nat.zero_le _
 ·rw [h10]; exact Nat.zero_le _
 ·rw [h11]; exact Nat.zero_le _
 ·rw [h10]; intro x hx; cases hx
 ·rw [h11]; intro x hx; cases hx
theorem recC_A2 (h : Base) : RecC h (cR rA2 (.slice none 0 0) (.slice none 0 0) (.slice none 0 0) (.slice none 0 0)) rA2 := recC_of (r := rA2) (wfR_plain _ (by decide) rfl (by decide) rfl rfl (by decide) rfl rfl rfl rfl rfl rfl) BV.nil ImgsV.nil SL.nil SL.nil
theorem enc_A2 : encR rA2 = ([4, 0, 1, 1], 0) := by decide
theorem small_A2 : smallR rA2 := ⟨Nat.zero_le _, Nat.zero_le _, Nat.zero_le _, Nat.zero_le _⟩
end Go.Proofs.YtijbhgiigddjdaaGreat.Wl
end

section
namespace Go.Proofs.YtijbhgiigddjdaaGreat.Pl
open Go.K Pg Wl Rc

theorem read_on {D : Dk} (hn : NoTrip D) {a : Nat} (ha : a < D.kept.length) : Wl.readQ D (a : Int) = (.ok (V D a), D) := by
 unfold Wl.readQ
 rw [goes_on hn, if_neg (by omega)]
 show (Except.ok (viewQ D.kept D.cache (a : Int).toNat), D) = _
 rw [Int.toNat_natCast]
 rfl
theorem get_hit {L L' : Lg} {D D' : Dk} {P P' : Po} {n : Nat} {r : Except Int Pag} (h : GetR L D P n r P' L' D') (hin : hasQ L D n) (hex : ∃ x ∈ P.frs, x.n = n) :
  L' = L ∧ D' = D ∧ ∃ i x, P.frs[i]? = some x ∧ x.n = n ∧ r = .ok x.pg ∧ P' = setP P i { x with used := true } := by
 obtain ⟨x, hx, hxn⟩ := hex
 cases h with
 | no h => exact absurd hin h
 | hit i x h1 h2 h3 => exact ⟨rfl, rfl, i, x, h2, h3, rfl, rfl⟩
 | dark e h1 h2 h3 => exact absurd hxn (h2 x hx)
 | bad b h1 h2 h3 h4 => exact absurd hxn (h2 x hx)
 | full b e P' L' D' h1 h2 h3 h4 h5 => exact absurd hxn (h2 x hx)
 | get b f i P' L' D' y h1 h2 h3 h4 h5 h6 h7 h8 h9 h10 => exact absurd hxn (h2 x hx)
theorem get_miss {L L' : Lg} {D D' : Dk} {P P' : Po} {n : Nat} {r : Except Int Pag} (h : GetR L D P n r P' L' D') (hin : hasQ L D n) (hno : ∀ x ∈ P.frs, x.n ≠ n) (hlt : P.frs.length < P.most) (hn : NoTrip D) :
  L' = L ∧ D' = D ∧ (((pageQ (V D (L.m.n + n))).2 ≠ 0 ∧ r = .error (pageQ (V D (L.m.n + n))).2 ∧ P' = P) ∨ ((pageQ (V D (L.m.n + n))).2 = 0 ∧ r = .ok (pageQ (V D (L.m.n + n))).1 ∧
   ∃ y, P' = setP (addP P y.b n) P.frs.length y ∧ y.n = n ∧ y.pg = (pageQ (V D (L.m.n + n))).1 ∧ y.fresh = false ∧ FrOk y)) := by
 have hl : L.m.n + n < D.kept.length := by have := hin.2; unfold pagesQ at this; omega
 have hr := read_on hn hl
 cases h with
 | no h => exact absurd hin h
 | hit i x h1 h2 h3 => exact absurd h3 (hno x (List.mem_of_getElem? h2))
 | dark e h1 h2 h3 =>
  unfold secP at h3
  rw [hr] at h3
  cases h3
 | bad b h1 h2 h3 h4 =>
  unfold secP at h3 ⊢
  rw [hr] at h3
  cases h3
  rw [hr]
  exact ⟨rfl, rfl, .inl ⟨h4, rfl, rfl⟩⟩
 | full b e P' L' D' h1 h2 h3 h4 h5 =>
  cases h5 with
  | fail frs hd x g1 g2 g3 g4 => omega
 | get b f i P' L' D' y h1 h2 h3 h4 h5 h6 h7 h8 h9 h10 =>
  unfold secP at h3 h5
  rw [hr] at h3 h5
  cases h3
  cases h5 with
  | add b g1 => exact ⟨rfl, rfl, .inr ⟨h4, rfl, y, by rw [h6], h7, h8, h9, h10⟩⟩
  | swap frs hd x g1 g2 g3 g4 => omega
theorem put_hit {L L' : Lg} {D D' : Dk} {P P' : Po} {n : Nat} {to : Pag} {e : Int} (h : PutR L D P n to e P' L' D') (hin : hasQ L D n) (hok : mayQ to = true ∨ zeroQ to = true) (hex : ∃ x ∈ P.frs, x.n = n) :
  e = 0 ∧ L' = L ∧ D' = D ∧ ∃ i x y, P.frs[i]? = some x ∧ x.n = n ∧ P' = putD (setP P i y) n to.lsn ∧ y.b = x.b ∧ y.n = n ∧ y.pg = to ∧ y.fresh = true ∧ FrOk y := by
 obtain ⟨x, hx, hxn⟩ := hex
 cases h with
 | no h => exact absurd hin h
 | bad h1 h2 h3 => rcases hok with h | h <;> simp_all
 | hit i x y h1 h2 h3 h4 h5 h6 h7 h8 h9 => exact ⟨rfl, rfl, rfl, i, x, y, h3, h4, rfl, h5, h6, h7, h8, h9⟩
 | full e P' L' D' h1 h2 h3 h4 => exact absurd hxn (h3 x hx)
 | put f i P' L' D' y h1 h2 h3 h4 h5 h6 h7 h8 h9 => exact absurd hxn (h3 x hx)
theorem wr_on {x : Fr} {L : Lg} {D : Dk} {rs : List Recd} {m : Nat} (h : RunP D L rs m) (hn : NoTrip D) (hl : L.m.n + x.n < D.kept.length) (hc : D.cache.length + 20000 ≤ roomMax) (hx : FrOk x) : (wrQ x L D).e = 0 ∧ NoTrip (wrQ x L D).D := by
 obtain ⟨f1, f2, f3, f4, f5, f6⟩ := flush_runP h hc
 have hlf : (lfQ x L D).1 = 0 ∧ NoTrip (lfQ x L D).2.2 ∧ (lfQ x L D).2.2.kept.length = D.kept.length := by
  unfold lfQ
  split
  ·exact ⟨(f1.on hn).1, (f1.on hn).2, f2⟩
  ·exact ⟨rfl, hn, rfl⟩
 obtain ⟨w1, _, _⟩ := write_sem (D := (lfQ x L D).2.2) (a := L.m.n + x.n) (b := pgB x.pg) (by rw [hlf.2.2]; exact hl) (pgB_len hx.may)
 obtain ⟨w2, w3⟩ := w1.on hlf.2.1
 unfold wrQ
 split
 ·exact ⟨rfl, hn⟩
 ·rw [if_neg (fun h => h hlf.1), if_neg (fun h => h w2)]
  exact ⟨rfl, w3⟩
end Go.Proofs.YtijbhgiigddjdaaGreat.Pl
end

section
namespace Go.K
section
variable {P : Program} {f : FuncId} {args : List Value} {h : Base} {A R : List Asrt} {Q Q' : Value → Base → List Asrt → Prop}
theorem Tr.bunch (ht : Tr P f args h A Q) (hq : ∀ u h' H', Q u h' H' → ∃ H2, Q' u h' H2 ∧ ∀ F w, Ok h' (H' ++ F) w → Ok h' (H2 ++ F) w) : Tr P f args h [all A] Q' := fun F w ok =>
 Calls.mono (ht F w (Ok.all_iff.1 ok)) fun e w' ⟨u, he, h1, H1, hle, q, ok1⟩ => by
  obtain ⟨H2, q2, hx⟩ := hq u h1 H1 q
  exact ⟨u, he, h1, H2, hle, q2, hx F w' ok1⟩
theorem Tr.frame (R : List Asrt) (ht : Tr P f args h A Q) : Tr P f args h (A ++ R) (fun u h' H' => ∃ H1, Q u h' H1 ∧ H' = H1 ++ R) := fun F w ok =>
 Calls.mono (ht (R ++ F) w (by rw [← List.append_assoc]; exact ok)) fun e w' ⟨u, he, h1, H1, hle, q, ok1⟩ => ⟨u, he, h1, H1 ++ R, hle, ⟨H1, q, rfl⟩, by rw [List.append_assoc]; exact ok1⟩
theorem Tr.pre {A' : List Asrt} (hp : A'.Perm A) (ht : Tr P f args h A Q) : Tr P f args h A' Q := fun F w ok => ht F w (ok.perm (hp.append_right F))
theorem WL.sel {n : NN} {ops : Array Oper} {Q : Exit → Act → World → Prop} {E : Env} {H : List Asrt} {L : List Oper} (is : List Nat) {A H' : List Asrt} (e : pick is H = some (A, H')) (hx : WL P n ops Q L E h H') : WL P n ops Q L E h H := WL.perm (pick_perm e) (WL.dropsA hx)
theorem ok_bunch {h : Base} {A H1 F : List Asrt} {w : World} (ok : Ok h ((H1 ++ A) ++ F) w) : Ok h ((all A :: H1) ++ F) w := by
 refine Ok.all_iff.2 (ok.perm ?_)
 have := (List.perm_append_comm (l₁ := H1) (l₂ := A)).append_right F
 rwa [List.append_assoc A H1 F] at this
end
end Go.K
namespace Go.Proofs.YtijbhgiigddjdaaGreat.Pl
open Go.K Pg Wl

def PoolM (h : Base) (q d l : Nat) (L : Lg) (MD : DM) (D : Dk) (P : Po) (A : Asrt) : Prop := ∃ W M, StrOk h W L.stream ∧ A = all (poA q d l W L MD D M P)
def PageX (r : Except Int Pag) (u : Value) (H1 : List Asrt) : Prop := ∃ (p : Pag) (e : Int) (b : Option Nat) (cap : Nat) (l : List OC), u = .tuple #[.agg (cP p (bufV b l.length cap)).toArray, .int .i64 e] ∧ p.cells = l.map OC.cell ∧ okO l ∧ (r = .ok p ∧ e = 0 ∨ r = .error e ∧ p = ⟨0, 0, 0, []⟩) ∧ H1 = pgA b cap l
theorem ok_pgA {h : Base} {F : List Asrt} {w : World} (ok : Ok h F w) : Ok h (pgA none 0 [] ++ F) w := (Pg.Ok.allNil ok).nilBuf
theorem getX {h : Base} {r : Except Int Pag} {u : Value} {H1 : List Asrt} (hv : GetV r u H1) : ∃ H2, PageX r u H2 ∧ ∀ F w, Ok h (H1 ++ F) w → Ok h (H2 ++ F) w := by
 cases r with
 | ok p =>
  obtain ⟨b, cap, l, h1, h2, rfl, rfl⟩ := hv
  exact ⟨_, ⟨p, 0, b, cap, l, rfl, h1, h2, .inl ⟨rfl, rfl⟩, rfl⟩, fun F w ok => ok⟩
 | error e =>
  obtain ⟨rfl, rfl⟩ := hv
  exact ⟨_, ⟨⟨0, 0, 0, []⟩, e, none, 0, [], rfl, rfl, (fun c hc => by cases hc), .inr ⟨rfl, rfl⟩, rfl⟩, fun F w ok => ok_pgA ok⟩
def BGetPost (h : Base) (q d l : Nat) (L : Lg) (MD : DM) (D : Dk) (P : Po) (n : Nat) (u : Value) (h' : Base) (H' : List Asrt) : Prop :=
 h' = h ∧ ∃ r P' L' D' MD' A' H1, GetR L D P n r P' L' D' ∧ PageX r u H1 ∧ ((∃ x ∈ P.frs, x.n = n) → MD' = MD) ∧ ((∀ x ∈ P.frs, x.n ≠ n) → P.frs.length < P.most → ∀ p, r = .ok p → MD' = readM MD) ∧ PoolM h q d l L' MD' D' P' A' ∧ H' = A' :: H1
section
variable {h : Base} {q d l : Nat} {L : Lg} {MD : DM} {D : Dk} {P : Po} {A : Asrt}
theorem BGet (hA : PoolM h q d l L MD D P A) (n : Nat) (ho : LgOk L) (hk : DkOk D) (hr : D.cache.length + 40000 ≤ roomMax) (hP : PoOk P) (hp : 0 ≤ pagesQ L D) (hn : n < 4294967296) :
  Tr Tryz.prog 10 [pv q, .int .u32 n] h [A] (BGetPost h q d l L MD D P n) := by
 obtain ⟨W, M, hs, rfl⟩ := hA
 refine (QGet h q d l W L MD D M P n ho hs hk hr hP hp hn).bunch ?_
 rintro u h' H' ⟨rfl, r, P', L', D', MD', M', H1, hR, hV, h1, h2, rfl⟩
 obtain ⟨H2, hx, hok⟩ := getX (h := h') hV
 have hf := (hR.ok hP ho hk (by omega) hn).2.2.2.2.2.2.2
 refine ⟨all (poA q d l W L' MD' D' M' P') :: H2, ⟨rfl, r, P', L', D', MD', _, H2, hR, hx, h1, h2, ⟨W, M', ?_, rfl⟩, rfl⟩, fun F w ok => ?_⟩
 ·rw [(flushed_same hf).2.1]; exact hs
 ·rw [List.append_assoc] at ok
  exact ok_bunch (H1 := H2) (by rw [List.append_assoc]; exact hok _ _ ok)
theorem BPut (hA : PoolM h q d l L MD D P A) (n : Nat) (cs : List Value) (to : Pag) (hx : PagC h cs to) (ho : LgOk L) (hk : DkOk D) (hr : D.cache.length + 40000 ≤ roomMax) (hP : PoOk P) (hp : 0 ≤ pagesQ L D) (hn : n < 4294967296) :
  Tr Tryz.prog 15 [pv q, .int .u32 n, .agg cs.toArray] h [A] (fun u h' H' => h' = h ∧ ∃ e P' L' D' MD' A', PutR L D P n to e P' L' D' ∧ u = .int .i64 e ∧ PoolM h q d l L' MD' D' P' A' ∧ H' = [A']) := by
 obtain ⟨W, M, hs, rfl⟩ := hA
 refine (QPut h q d l W L MD D M P n cs to hx ho hs hk hr hP hp hn).bunch ?_
 rintro u h' H' ⟨rfl, e, P', L', D', MD', M', hR, rfl, rfl⟩
 have hf := (hR.ok hP ho hk (by omega) hn).2.2.2.2.2
 refine ⟨[all (poA q d l W L' MD' D' M' P')], ⟨rfl, e, P', L', D', MD', _, hR, rfl, ⟨W, M', ?_, rfl⟩, rfl⟩, fun F w ok => ok_bunch (H1 := []) ok⟩
 rw [(flushed_same hf).2.1]; exact hs
theorem BFlushAll (hA : PoolM h q d l L MD D P A) (ho : LgOk L) (hk : DkOk D) (hr : D.cache.length + P.most * 9001 + 40000 ≤ roomMax) (hP : PoOk P) :
  Tr Tryz.prog 18 [pv q] h [A] (fun u h' H' => h' = h ∧ ∃ e P' L' D' MD' A', AllR L D P e P' L' D' ∧ u = .int .i64 e ∧ (P.dl = [] → MD' = MD) ∧ (L'.stream = L.stream → PoolM h q d l L' MD' D' P' A') ∧ H' = [A']) := by
 obtain ⟨W, M, hs, rfl⟩ := hA
 refine (QFlush h q d l W L MD D M P ho hs hk hr hP).bunch ?_
 rintro u h' H' ⟨rfl, e, P', L', D', MD', hR, rfl, h2, rfl⟩
 exact ⟨[all (poA q d l W L' MD' D' M P')], ⟨rfl, e, P', L', D', MD', _, hR, rfl, h2, fun hst => ⟨W, M, by rw [hst]; exact hs, rfl⟩, rfl⟩, fun F w ok => ok_bunch (H1 := []) ok⟩
theorem poA_log {W : LM} {M : PM} : (poA q d l W L MD D M P).Perm (lgA l d W L ++ (poB q d l M P :: (dkA d MD D ++ poR M P))) := by
 unfold poA
 rw [List.append_assoc]
 exact List.perm_middle.symm
theorem poA_disk {W : LM} {M : PM} : (poA q d l W L MD D M P).Perm (dkA d MD D ++ (poB q d l M P :: (lgA l d W L ++ poR M P))) := by
 unfold poA
 refine List.Perm.trans (List.Perm.cons _ ?_) List.perm_middle.symm
 rw [← List.append_assoc]
 exact List.perm_append_comm.append_right _
theorem poA_dirty {W : LM} {M : PM} : (poA q d l W L MD D M P).Perm ([poB q d l M P, mapA M.dm .u32 P.dl P.dc] ++ (lgA l d W L ++ dkA d MD D ++ [bufA 103 1 M.fa P.frs.length M.fk (P.frs.map frP), mapA M.wm .u32 P.wl P.wc, all (P.frs.map frA)])) := by
 exact K.pp [0, 8] rfl
theorem BDirty (hA : PoolM h q d l L MD D P A) (hm : MapOk P.dl P.dc) (h1 : OneD P.dl) :
  Tr Tryz.prog 17 [pv q] h [A] (fun u h' H' => h' = h ∧ ∃ a cap, u = bufV a P.dl.length cap ∧ H' = [A, bufA 94 2 a P.dl.length cap (dirC P.dl)]) := by
 obtain ⟨W, M, hs, rfl⟩ := hA
 refine (((QDirty h q d l M P hm h1).frame (lgA l d W L ++ dkA d MD D ++ [bufA 103 1 M.fa P.frs.length M.fk (P.frs.map frP), mapA M.wm .u32 P.wl P.wc, all (P.frs.map frA)])).pre poA_dirty).bunch ?_
 rintro u h' H' ⟨H1, ⟨rfl, a, cap, rfl, rfl⟩, rfl⟩
 refine ⟨_, ⟨rfl, a, cap, rfl, rfl⟩, fun F w ok => ok_bunch (H1 := [_]) (ok.perm ?_)⟩
 refine List.Perm.append_right F ?_
 exact List.Perm.trans (List.Perm.trans (List.Perm.append_right _ (List.perm_append_comm (l₁ := [poB q d l M P, mapA M.dm .u32 P.dl P.dc]) (l₂ := [_]))) (by rw [List.append_assoc])) (List.Perm.append_left _ poA_dirty.symm)
theorem BAppend (hA : PoolM h q d l L MD D P A) (ho : LgOk L) (cs : List Value) (r : Rc.Recd) (hx : Rc.RecC h cs r) (hsm : Rc.smallR r) :
  Tr Tryz.prog 30 [pv l, .agg cs.toArray] h [A] (fun u h' H' => h' = h ∧ u = .tuple #[Wl.n64 (appQ L r).1.1, .int .i64 (appQ L r).1.2] ∧ ∃ A', PoolM h q d l (appQ L r).2 MD D P A' ∧ H' = [A']) := by
 obtain ⟨W, M, hs, rfl⟩ := hA
 refine (((Append h l d W L ho hs cs r hx hsm).frame (poB q d l M P :: (dkA d MD D ++ poR M P))).pre poA_log).bunch ?_
 rintro u h' H' ⟨H1, ⟨rfl, rfl, W', hs', rfl⟩, rfl⟩
 exact ⟨[all (poA q d l W' (appQ L r).2 MD D M P)], ⟨rfl, rfl, _, ⟨W', M, hs', rfl⟩, rfl⟩, fun F w ok => ok_bunch (H1 := []) (ok.perm (poA_log.symm.append_right F))⟩
theorem BCounts (hA : PoolM h q d l L MD D P A) : TrV Tryz.prog 23 [dv d] h [A] (.agg [.int .i64 MD.c1, .int .i64 MD.c2, .int .i64 MD.c3].toArray) [A] := by
 obtain ⟨W, M, hs, rfl⟩ := hA
 refine ((K.Tr.frame (poB q d l M P :: (lgA l d W L ++ poR M P)) (Counts h d MD D)).pre poA_disk).bunch ?_
 rintro u h' H' ⟨H1, ⟨rfl, rfl, rfl⟩, rfl⟩
 exact ⟨_, ⟨rfl, rfl, rfl⟩, fun F w ok => ok_bunch (H1 := []) (ok.perm (poA_disk.symm.append_right F))⟩
theorem BDurable (hA : PoolM h q d l L MD D P A) : TrV Tryz.prog 31 [pv l] h [A] (Wl.n64 L.durable) [A] := by
 obtain ⟨W, M, hs, rfl⟩ := hA
 refine ((K.Tr.frame (poB q d l M P :: (dkA d MD D ++ poR M P)) (LDurable h l d W L)).pre poA_log).bunch ?_
 rintro u h' H' ⟨H1, ⟨rfl, rfl, rfl⟩, rfl⟩
 exact ⟨_, ⟨rfl, rfl, rfl⟩, fun F w ok => ok_bunch (H1 := []) (ok.perm (poA_log.symm.append_right F))⟩
theorem BEnd (hA : PoolM h q d l L MD D P A) (ho : LgOk L) : TrV Tryz.prog 29 [pv l] h [A] (Wl.n64 (endQ L)) [A] := by
 obtain ⟨W, M, hs, rfl⟩ := hA
 refine ((K.Tr.frame (poB q d l M P :: (dkA d MD D ++ poR M P)) (LEnd h l d W L ho hs)).pre poA_log).bunch ?_
 rintro u h' H' ⟨H1, ⟨rfl, rfl, rfl⟩, rfl⟩
 exact ⟨_, ⟨rfl, rfl, rfl⟩, fun F w ok => ok_bunch (H1 := []) (ok.perm (poA_log.symm.append_right F))⟩
end
def begX (s d l q bi bf bp n : Nat) (A : Asrt) : List Asrt :=
 [blk s 35 (stV d l q bi bf bp n), A, bufA 41 4 (some bi) n n (List.replicate n zPg).flatten, bufA 37 1 (some bf) n n (List.replicate n [Value.int .u64 0]).flatten, bufA 4 1 (some bp) n n (List.replicate n [Value.bool false]).flatten]
theorem BBeg (h : Base) (pages frames : Nat) (hp1 : 1 ≤ pages) (hp2 : pages ≤ 60) (hf1 : 8 ≤ frames) (hf2 : frames ≤ 256) :
  Tr Tryz.prog 8 [.int .i64 pages, .int .i64 frames] h [] (fun u h' H' => ∃ s d l q bi bf bp MD D A, u = .tuple #[pv s, .bool true] ∧ Begun pages D ∧ PoolM h' q d l L0 MD D (newPo frames) A ∧ H' = begX s d l q bi bf bp (pages + 1) A) := fun F w ok =>
 Calls.mono (Beg h pages frames hp1 hp2 hf1 hf2 F w ok) fun e w' hx => by
  obtain ⟨u, he, h1, H1, hle, ⟨s, d, l, q, bi, bf, bp, W, MD, D, M, hu, hb, hs, rfl⟩, ok1⟩ := hx
  refine ⟨u, he, h1, begX s d l q bi bf bp (pages + 1) (all (poA q d l W L0 MD D M (newPo frames))), hle, ⟨s, d, l, q, bi, bf, bp, MD, D, _, hu, hb, ⟨W, M, hs, rfl⟩, rfl⟩, ?_⟩
  unfold begA at ok1
  unfold begX
  simp only [Go.K.cna] at ok1 ⊢
  refine Ok.perm (Ok.all_iff.2 (ok1.perm ?_)) (List.Perm.swap _ _ _)
  exact List.perm_append_comm (l₁ := [_, _, _, _]) (l₂ := poA q d l W L0 MD D M (newPo frames)) |>.append_right F |> fun hp => by
   simpa only [List.append_assoc, List.cons_append, List.nil_append] using hp
end Go.Proofs.YtijbhgiigddjdaaGreat.Pl
end

section
namespace Go.Proofs.YtijbhgiigddjdaaGreat.Pl
open Go.K Pg Wl Rc

theorem pagC0 (h : Base) (p : Pag) (hp : p.cells = []) (hw : wfP p) (ao : Option Addr) (c : Nat) : PagC h (cP p (.slice ao 0 c)) p := ⟨hw, _, rfl, [], .inl ⟨_, _, rfl, rfl⟩, by rw [hp]; rfl, fun j c x hc => by cases hc⟩
def L1 : Lg := ⟨master0 16, [4, 0, 1, 1], [1], 1⟩
def aP : Pag := ⟨1, 1, 0, []⟩
theorem wf_aP : wfP aP := ⟨by decide, by decide, by decide, by decide⟩
theorem may_aP : mayQ aP = true := by decide
theorem pageX_err {e : Int} {u : Value} {H1 : List Asrt} (h : PageX (.error e) u H1) : ∃ b cap, u = .tuple #[.agg (cP ⟨0, 0, 0, []⟩ (bufV b 0 cap)).toArray, .int .i64 e] ∧ H1 = pgA b cap [] := by
 obtain ⟨p, e', b, cap, l, rfl, h1, h2, h3, rfl⟩ := h
 rcases h3 with ⟨h3, _⟩ | ⟨h3, rfl⟩
 ·cases h3
 ·cases h3
  have : l = [] := by
   have := congrArg List.length h1
   simp at this
   exact List.eq_nil_of_length_eq_zero this.symm
  subst this
  exact ⟨b, cap, rfl, rfl⟩
theorem pageX_ok {p : Pag} {u : Value} {H1 : List Asrt} (h : PageX (.ok p) u H1) : ∃ b cap l, u = .tuple #[.agg (cP p (bufV b l.length cap)).toArray, .int .i64 0] ∧ p.cells = l.map OC.cell ∧ okO l ∧ H1 = pgA b cap l := by
 obtain ⟨p', e', b, cap, l, rfl, h1, h2, h3, rfl⟩ := h
 rcases h3 with ⟨h3, rfl⟩ | ⟨h3, _⟩
 ·cases h3
  exact ⟨b, cap, l, rfl, h1, h2, rfl⟩
 ·cases h3
theorem QAlive (h : Base) : Tr Tryz.prog 7 [] h [] (fun u h' H' => u = .bool true ∧ H' = []) := by
 refine K.en Tryz.func7 fun F => ?_
 simp only [List.nil_append]
 (repeat' first | refine X.rq ?_ | refine X.rc ?_ ?_ <;> intro hc <;> try omega)
 refine K.l_call (Fx.cal rfl) rfl (BBeg h 3 8 (by omega) (by omega) (by omega) (by omega)) (K.pp [] rfl) rfl ?_
 rintro u h1 H' le1 ⟨s, d, l, q, bi, bf, bp, MD, D, A, rfl, ⟨hrun, hon, hln, hze⟩, hA, rfl⟩
 unfold begX stV
 simp only [Go.K.cna]
 refine K.WL.sel [2, 2, 2] rfl ?_
 simp only [Go.K.nmz]
 have o0 : LgOk L0 := hrun.lgOk
 have hmn : L0.m.n = 16 := rfl
 have hAp := BAppend hA o0 _ rA2 (recC_A2 h1) small_A2
 have a1 : appQ L0 rA2 = ((1, 0), L1) := by unfold appQ; rw [enc_A2]; rfl
 rw [a1] at hAp
 dsimp only at hAp
 have g1 := append_run hrun (r := rA2) (recC_A2 h1).wfX (by rw [enc_A2]) (by rw [enc_A2]; decide)
 rw [a1] at g1
 dsimp only at g1
 have o1 := g1.lgOk
 have hkk := g1.ok
 have hca := g1.cache
 have hpq : pagesQ L1 D = 3 := by unfold pagesQ; rw [hln]; rfl
 (repeat' first | refine X.rq ?_ | refine X.rc ?_ ?_ <;> intro hc <;> try omega)
 refine K.l_call (Fx.cal rfl) rfl hAp (K.pp [1] rfl) rfl ?_
 rintro u h' H' - ⟨e, rfl, A1, hA1, rfl⟩
 obtain rfl := e.symm
 simp only [Go.K.cna]
 simp only [Go.K.nmz]
 have hG4 := BGet hA1 4 o1 hkk (by rw [hca]; decide) (newPoOk (by omega) (by omega)) (by omega) (by omega)
 (repeat' first | refine X.rq ?_ | refine X.rc ?_ ?_ <;> intro hc <;> try omega)
 refine K.l_call (Fx.cal rfl) rfl hG4 (K.pp [0] rfl) rfl ?_
 rintro u h' H' - ⟨e, r, P', L', D', MD', A2, H1, hR, hV, -, -, hA2, rfl⟩
 obtain rfl := e.symm
 have hno4 : ¬ hasQ L1 D 4 := by unfold hasQ; rw [hpq]; omega
 cases hR with
 | hit i x h1 h2 h3 => exact absurd h1 hno4
 | dark e h1 h2 h3 => exact absurd h1 hno4
 | bad b h1 h2 h3 h4 => exact absurd h1 hno4
 | full b e P' L' D' h1 h2 h3 h4 h5 => exact absurd h1 hno4
 | get b f i P' L' D' y h1 h2 h3 h4 h5 h6 h7 h8 h9 h10 => exact absurd h1 hno4
 | no _ =>
 obtain ⟨b4, cap4, rfl, rfl⟩ := pageX_err hV
 unfold pgA
 simp only [Go.K.cna]
 simp only [Go.K.nmz]
 refine K.WL.sel [1, 1] rfl ?_
 simp only [Go.K.nmz]
 (repeat' first | refine X.rq ?_ | refine X.rc ?_ ?_ <;> intro hc <;> try omega)
 refine K.l_alloc (Fx.zr rfl) rfl rfl (fun B5 => ?_)
 refine X.stw ?_
 simp only [Go.K.nmz]
 refine K.WL.drop ?_
 (repeat' first | refine X.rq ?_ | refine X.rc ?_ ?_ <;> intro hc <;> try omega)
 have hin1 : hasQ L1 D 1 := by unfold hasQ; rw [hpq]; omega
 have hG1 := BGet hA2 1 o1 hkk (by rw [hca]; decide) (newPoOk (by omega) (by omega)) (by omega) (by omega)
 refine K.l_call (Fx.cal rfl) rfl hG1 (K.pp [0] rfl) rfl ?_
 rintro u h' H' - ⟨e, r, P1, L2, D2, MD2, A3, H1, hR1, hV, -, -, hA3, rfl⟩
 obtain rfl := e.symm
 obtain ⟨_, hdl1, hdc1, _, _⟩ := hR1.ok (newPoOk (by omega) (by omega)) o1 hkk (by rw [hca]; decide) (by omega)
 have hpo1 := (hR1.ok (newPoOk (by omega) (by omega)) o1 hkk (by rw [hca]; decide) (by omega)).1
 obtain ⟨rfl, eD, hms⟩ := get_miss hR1 hin1 (fun x hx => by cases hx) (by show 0 < 8; omega) hon
 obtain rfl := eD.symm
 have hv17 : V D (L1.m.n + 1) = zs := hze 17 (by omega) (by omega)
 rw [hv17, show pageQ zs = ((⟨0, 0, 0, []⟩ : Pag), 0) from if_pos rfl] at hms
 rcases hms with ⟨h0, _⟩ | ⟨_, rfl, y1, hP1, hy1, hy2, hy3, hy4⟩
 ·exact absurd rfl h0
 have hf1 : P1.frs = [y1] := by rw [hP1]; rfl
 have hmo1 : P1.most = 8 := by rw [hP1]; rfl
 have hd1 : P1.dl = [] := hdl1
 have hd2 : P1.dc = 0 := hdc1
 clear hP1 hdl1 hdc1
 obtain ⟨b5, cap5, l5, rfl, hl5, -, rfl⟩ := pageX_ok hV
 obtain rfl : l5 = [] := List.map_eq_nil_iff.1 hl5.symm
 unfold pgA
 simp only [Go.K.cna]
 simp only [Go.K.nmz]
 (repeat' first | refine X.rq ?_ | refine X.rc ?_ ?_ <;> intro hc <;> try omega)
 refine K.l_alloc (Fx.zr rfl) rfl rfl (fun B7 => ?_)
 refine X.stw ?_
 simp only [Go.K.nmz]
 (repeat' first | refine X.rq ?_ | refine X.rc ?_ ?_ <;> intro hc <;> try omega)
 have hPu := BPut hA3 1 _ aP (pagC0 h1 aP rfl wf_aP none 0) o1 hkk (by rw [hca]; decide) hpo1 (by rw [hpq]; omega) (by omega)
 refine K.l_call (Fx.cal rfl) rfl hPu (K.pp [1] rfl) rfl ?_
 rintro u h' H' - ⟨e, e2, P2, L3, D3, MD3, A4, hR2, rfl, hA4, rfl⟩
 obtain rfl := e.symm
 have hpo2 := (hR2.ok hpo1 o1 hkk (by rw [hca]; decide) (by omega)).1
 obtain ⟨rfl, rfl, eD, i, x, y2, hx1, hx2, hP2, hz1, hz2, hz3, hz4, hz5⟩ := put_hit hR2 hin1 (.inl may_aP) ⟨y1, by rw [hf1]; exact List.mem_singleton.2 rfl, hy1⟩
 obtain rfl := eD.symm
 have hi0 : i = 0 := by
  have := (List.getElem?_eq_some_iff.1 hx1).1
  rw [hf1] at this
  simp at this; exact this
 subst hi0
 have hdl2 : P2.dl = [(1, Wl.n64 1, 0)] := by
  rw [hP2]
  unfold putD
  have : (K.look (setP P1 0 y2).dl ((1 : Nat) : Int)) = none := by show K.look P1.dl _ = none; rw [hd1]; rfl
  rw [this, if_neg (by decide)]
  show putM P1.dl P1.dc _ _ = _
  rw [hd1, hd2]; rfl
 have hf2 : P2.frs = [y2] := by
  rw [hP2, (putD_frs _ _ _).1]
  show P1.frs.set 0 y2 = _
  rw [hf1]; rfl
 have hmo2 : P2.most = 8 := by
  rw [hP2, (putD_frs _ _ _).2.1]
  exact hmo1
 simp only [Go.K.cna]
 simp only [Go.K.nmz]
 (repeat' first | refine X.rq ?_ | refine X.rc ?_ ?_ <;> intro hc <;> try omega)
 have hDi := BDirty hA4 hpo2.dk (.inr ⟨1, 1, 0, hdl2⟩)
 refine K.l_call (Fx.cal rfl) rfl hDi (K.pp [0] rfl) rfl ?_
 rintro u h' H' - ⟨e, a6, cap6, rfl, rfl⟩
 obtain rfl := e.symm
 rw [hdl2, show dirC [(1, Wl.n64 1, 0)] = [.int .u32 1, .int .u64 1] from rfl]
 simp only [List.cons_append, List.nil_append, List.length_cons, List.length_nil]
 simp only [Go.K.nmz]
 (repeat' first | refine X.rq ?_ | refine X.rc ?_ ?_ <;> intro hc <;> try omega)
 have hDu := BDurable hA4
 rw [show Wl.n64 L1.durable = .int .u64 1 from rfl] at hDu
 refine K.l_callV (Fx.cal rfl) rfl hDu (K.pp [0] rfl) rfl rfl ?_
 simp only [Go.K.cna]
 simp only [Go.K.nmz]
 (repeat' first | refine X.rq ?_ | refine X.rc ?_ ?_ <;> intro hc <;> try omega)
 have hy2 : FrOk y2 := hz5
 have hpr := g1.toP
 obtain ⟨we, wn⟩ := wr_on (x := y2) hpr hon (by rw [hln, hz2]; show 16 + 1 < 17 + 3; omega) (by rw [hca]; decide) hy2
 have hFl := BFlushAll hA4 o1 hkk (by rw [hca, hmo2]; decide) hpo2
 refine K.l_call (Fx.cal rfl) rfl hFl (K.pp [0] rfl) rfl ?_
 rintro u h' H' - ⟨e, e5, P5, L5, D5, MD5, A5, hR5, rfl, -, hA5, rfl⟩
 obtain rfl := e.symm
 have hws : wrsQ P2.frs L1 D = ⟨0, [(wrQ y2 L1 D).x], (wrQ y2 L1 D).L, (wrQ y2 L1 D).D⟩ := by
  rw [hf2]
  unfold wrsQ
  rw [if_neg (fun h => h we)]
  rfl
 have hsy := ((sync_sem (wrQ y2 L1 D).D).1.on wn).1
 have hL5 : (wrQ y2 L1 D).L = { L1 with durable := endQ L1 } := by
  have hlf : lfQ y2 L1 D = flushQ L1 D := by unfold lfQ; rw [hz3]; exact if_pos (by decide)
  obtain ⟨f1, _, _, _, f5, f6⟩ := flush_runP hpr (by rw [hca]; decide)
  have f0 := (f1.on hon).1
  have hL : (lfQ y2 L1 D).2.1 = { L1 with durable := endQ L1 } := by
   rw [hlf]
   exact (flush_ok o1 hkk (by rw [hca]; decide)).2.2.2.2 f0
  have hl0 : (lfQ y2 L1 D).1 = 0 := by rw [hlf]; exact f0
  unfold wrQ
  rw [if_neg (by rw [hz4]; decide), if_neg (fun h => h hl0)]
  split
  ·exact hL
  ·exact hL
 have hR5' : e5 = 0 ∧ L5 = { L1 with durable := endQ L1 } ∧ P5.dl = [] ∧ P5.dc = P2.dc := by
  cases hR5 with
  | none h => rw [hdl2] at h; cases h
  | fail h => rw [hws] at h; exact absurd rfl h
  | dark h h' => rw [hws] at h'; exact absurd hsy h'
  | ok h h' => exact ⟨rfl, by rw [hws]; exact hL5, rfl, rfl⟩
 obtain ⟨rfl, rfl, hdl5, hdc5⟩ := hR5'
 have hA5 := hA5 rfl
 simp only [Go.K.cna]
 simp only [Go.K.nmz]
 (repeat' first | refine X.rq ?_ | refine X.rc ?_ ?_ <;> intro hc <;> try omega)
 refine K.WC.sel [3, 3] rfl ?_
 simp only [Go.K.nmz]
 have hze7 := LZero h1 _ (⟨0, 0, 0, []⟩ : Pag) (pagC0 h1 ⟨0, 0, 0, []⟩ rfl wfZ (b5.map fun b => ⟨b, 0, none⟩) cap5)
 have hDu5 := BDurable hA5
 have hEn5 := BEnd hA5 (Pl.LgOk.flushed o1 (.inr rfl))
 have hDi5 := BDirty hA5 (by rw [hdl5]; exact ⟨by simp, by simp, fun e h => by cases h⟩) (.inl hdl5)
 refine K.WC.someBuf 1 rfl (by omega) (fun a7 ha7 => ?_)
 subst ha7
 rw [show Wl.n64 ({ L1 with durable := endQ L1 } : Lg).durable = .int .u64 5 from rfl] at hDu5
 rw [show Wl.n64 (endQ ({ L1 with durable := endQ L1 } : Lg)) = .int .u64 5 from rfl] at hEn5
 refine X.drawN ([bufA 94 2 (some a7) (0 + 1) cap6 [.int .u32 1, .int .u64 1], blk B7 41 (cP ⟨0, 0, 0, []⟩ (bufV b5 0 cap5)), blk s 35 (stV d l q bi bf bp 4)]) [] (.pu 0 (.pu 1 (.pu 2 (.pu 3 (.pu 4 (.pu 5 (.pu 6 (.pu 7 (.pu 8 (.pu 9 (.pu 10 (.pu 11 (.pu 12 (.pu 13 (.pu 14 (.st 15 (.on 16 (.pu 17 (.pu 18 (.pu 19 (.pu 20 (.pu 21 (.pu 22 (.pu 23 (.pu 24 (.pu 25 (.pu 26 (.pu 27 (.pu 28 (.pu 29 (.pu 31 (.st 30 (.pu 32 (.pu 33 (.pu 34 (.pu 35 (.pu 36 (.pu 37 (.pu 38 (.pu 39 (.pu 40 (.pu 41 (.pu 42 (.pu 43 (.pu 44 (.pu 45 (.pu 48 (.pu 49 (.pu 50 (.st 46 (.st 51 (.on 47 (.on 52 (.pu 53 (.pu 54 (.pu 55 (.pu 56 (.pu 57 (.pu 58 (.st 59 (.on 60 (.pu 61 (.pu 62 (.pu 63 (.pu 64 .nil))))))))))))))))))))))))))))))))))))))))))))))))))))))))))))))))) ?_
 refine X.u_mv ?_
 refine X.u_beql ?_
 refine X.u_mv ?_
 refine X.g_mv ?_
 refine X.g_beql ?_
 refine X.u_pk ?_
 refine X.u_mv ?_
 refine X.g_mv ?_
 refine X.g_beql ?_
 refine X.u_pk ?_
 refine X.u_mv ?_
 refine X.g_mv ?_
 refine X.g_beql ?_
 refine X.u_pk ?_
 refine X.u_mv ?_
 refine X.h_ld ?_
 refine K.d_on rfl (fun KK hKK => ?_)
 refine K.s_take rfl rfl ?_
 refine K.l_callV (Fx.cal rfl) rfl hze7 (K.pp [] rfl) rfl rfl ?_
 refine K.l_nil ?_
 refine X.onE hKK ?_
 refine X.u_pk ?_
 refine X.u_mv ?_
 refine X.g_mv ?_
 refine X.g_beql ?_
 refine X.u_pk ?_
 refine X.u_mv ?_
 refine X.g_mv ?_
 refine X.g_len ?_
 refine X.g_beql ?_
 refine X.u_pk ?_
 refine X.u_mv ?_
 refine X.g_mv ?_
 refine X.g_ia ?_
 refine X.g_bd ?_
 refine K.d_stG rfl rfl rfl (K.p_loadM (vs := [.int .u32 1, .int .u64 1]) (Fx.agg rfl) rfl (K.cels_rowZ (es := [[.int .u32 1, .int .u64 1]]) (i := 0) 0 rfl (fun e he => by rw [List.mem_singleton.1 he]) rfl) (Fx.sz rfl) rfl) rfl ?_
 refine K.d_puG rfl rfl rfl (fun _ _ => K.p_eqA (r := true) (Fx.flat rfl) rfl rfl rfl) rfl ?_
 refine X.u_pk ?_
 refine X.u_mv ?_
 refine X.g_mv ?_
 refine X.g_beql ?_
 refine X.u_pk ?_
 refine X.u_mv ?_
 refine X.g_mv ?_
 refine X.g_beql ?_
 refine X.u_pk ?_
 refine X.u_mv ?_
 refine X.g_mv ?_
 refine X.g_nc ?_
 refine X.g_fa ?_
 refine X.g_mv ?_
 refine X.g_nc ?_
 refine X.g_fa ?_
 refine X.h_ld ?_
 refine X.h_ld ?_
 refine K.d_on rfl (fun KK hKK => ?_)
 refine K.s_take rfl rfl ?_
 refine K.l_callV (Fx.cal rfl) rfl hDu5 (K.pp [0] rfl) rfl rfl ?_
 refine K.l_nil ?_
 refine X.onE hKK ?_
 refine K.d_on rfl (fun KK hKK => ?_)
 refine K.s_take rfl rfl ?_
 refine K.l_callV (Fx.cal rfl) rfl hEn5 (K.pp [0] rfl) rfl rfl ?_
 refine K.l_nil ?_
 refine X.onE hKK ?_
 refine X.g_beql ?_
 refine X.u_pk ?_
 refine X.u_mv ?_
 refine X.g_mv ?_
 refine X.g_nc ?_
 refine X.g_fa ?_
 refine X.h_ld ?_
 refine K.d_on rfl (fun KK hKK => ?_)
 refine K.s_take rfl rfl ?_
 refine K.l_call (Fx.cal rfl) rfl hDi5 (K.pp [0] rfl) rfl ?_
 rintro u h' H' - ⟨e, a8, cap8, rfl, rfl⟩
 obtain rfl := e.symm
 rw [hdl5]
 refine K.l_nil ?_
 refine X.onE hKK ?_
 refine X.g_len ?_
 refine X.g_beql ?_
 refine X.u_pk ?_
 refine X.u_sg ?_
 refine K.d_nil ?_
 (repeat' first | refine X.rq ?_ | refine X.rc ?_ ?_ <;> intro hc <;> try omega)
 simp only [Go.K.cna]
 simp only [Go.K.nmz]
 exact K.dc (vs := [.bool true]) (.tmp rfl .nil) le1 (D := [_, _, _, _, _]) (H' := []) rfl ⟨rfl, rfl⟩
end Go.Proofs.YtijbhgiigddjdaaGreat.Pl
end

section
namespace Go.Proofs.YtijbhgiigddjdaaGreat.Pl
open Go.K Pg Wl Rc

def zP : Pag := ⟨0, 0, 0, []⟩
/-! ### The pages -/
structure Pages (K : Nat) (D : Dk) (frs : List Fr) (is : Nat → Pag) : Prop where
 fin : ∀ x ∈ frs, 1 ≤ x.n ∧ x.n ≤ K ∧ x.pg = is x.n ∧ (x.fresh = false → V D (16 + x.n) = pgB (is x.n))
 out : ∀ n, 1 ≤ n → n ≤ K → (∀ x ∈ frs, x.n ≠ n) → V D (16 + n) = pgB (is n)
end Go.Proofs.YtijbhgiigddjdaaGreat.Pl
end
