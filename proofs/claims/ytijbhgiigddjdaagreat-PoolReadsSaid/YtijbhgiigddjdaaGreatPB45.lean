/-
  Texts joined: Oj Af Ok Or. Conditions: each theorem's own.
-/
import Derived.Test.YtijbhgiigddjdaaGreatPB40
import Derived.Test.YtijbhgiigddjdaaGreatPB44
import Derived.Test.YtijbhgiigddjdaaGreatPB26
import Derived.Test.YtijbhgiigddjdaaGreatPB10
set_option linter.unusedVariables false
set_option linter.unusedSimpArgs false
section
namespace Go.Proofs.YtijbhgiigddjdaaGreat.Pl
open Go Go.K Go.Proofs Go.Proofs.YtijbhgiigddjdaaGreat Go.Proofs.YtijbhgiigddjdaaGreat.Pg Go.Proofs.YtijbhgiigddjdaaGreat.Wl Go.Proofs.YtijbhgiigddjdaaGreat.Rc
set_option maxRecDepth 10000

def L0 : Lg := ⟨master0 16, [], [], 1⟩
structure Begun (pages : Nat) (D : Dk) : Prop where
 run : Run D L0 [] 0
 on : NoTrip D
 len : D.kept.length = 17 + pages
 zero : ∀ i, 16 < i → i < 17 + pages → V D i = zs
def zPg : List Value := [.int .i64 0, .int .u64 0, .int .u32 0, .slice none 0 0]
def stV (d l q bi bf bp n : Nat) : List Value := [dv d, pv l, pv q, .slice (some ⟨bi, 0, none⟩) n n, .slice (some ⟨bf, 0, none⟩) n n, .slice (some ⟨bp, 0, none⟩) n n, .slice none 0 0]
def begA (s d l q bi bf bp n : Nat) (W : LM) (MD : DM) (D : Dk) (M : PM) (P : Po) : List Asrt :=
 blk s 35 (stV d l q bi bf bp n) :: bufA 41 4 (some bi) n n (List.replicate n zPg).flatten :: bufA 37 1 (some bf) n n (List.replicate n [Value.int .u64 0]).flatten :: bufA 4 1 (some bp) n n (List.replicate n [Value.bool false]).flatten :: poA q d l W L0 MD D M P
theorem made1 (z : Value) (hz : z.cells = #[z]) (k : Nat) : (madeCells z.cells (k * 1)).toList.take (k * 1) = (List.replicate k [z]).flatten := by
 rw [hz]
 exact Wl.made_rows [z] k k (Nat.le_refl _) (Nat.succ_pos _)
set_option maxHeartbeats 8000000 in
theorem Beg (h : Base) (pages frames : Nat) (hp1 : 1 ≤ pages) (hp2 : pages ≤ 60) (hf1 : 8 ≤ frames) (hf2 : frames ≤ 256) :
  Tr Tryz.prog 8 [.int .i64 pages, .int .i64 frames] h [] (fun u h' H' => ∃ s d l q bi bf bp W MD D M, u = .tuple #[pv s, .bool true] ∧ Begun pages D ∧ StrOk h' W [] ∧ H' = begA s d l q bi bf bp (pages + 1) W MD D M (newPo frames)) := by
 refine K.enter Tryz.func8 rfl (Nat.le_of_ble_eq_true rfl) (fun F => ?_)
 simp only [List.nil_append]
 (repeat' first | refine X.rq ?_ | refine X.rc ?_ ?_ <;> intro hc <;> try omega)
 rw [show (17 : Int) + (pages : Int) = ((17 + pages : Nat) : Int) by omega]
 refine K.l_call (Fx.cal rfl) rfl (Wl.New h ((17 + pages : Nat) : Int) (by omega) (by omega)) (K.pp [] rfl) rfl ?_
 rintro u h1 H' - ⟨rfl, hne⟩
 rcases hne with ⟨_, _, d, M, rfl, rfl⟩ | ⟨hx, _⟩
 rotate_left
 ·exfalso; exact hx ⟨by omega, by omega⟩
 rw [Int.toNat_natCast]
 have k0 : DkOk (newDk (17 + pages)) := newOk (by omega) (by omega)
 have kl0 : (newDk (17 + pages)).kept.length = 17 + pages := List.length_replicate
 obtain ⟨g0, g1, g2, g3⟩ := format_run (D := newDk (17 + pages)) (n := 16) k0 rfl ⟨rfl, rfl⟩ (Nat.le_refl _) (by rw [kl0]; omega)
 have go := oth_format (n := 16) (D := newDk (17 + pages)) (Nat.le_refl _) (by rw [kl0]; omega)
 have hF := Wl.Format h1 d M (newDk (17 + pages)) ((16 : Nat) : Int) k0 (by show 0 + 10000 ≤ roomMax; decide)
 have hv0 : ∀ i, i < 17 + pages → V (newDk (17 + pages)) i = zs := fun i hi => by
  show (List.replicate (17 + pages) zs).getD i [] = zs
  rw [List.getD_eq_getElem?_getD, List.getElem?_replicate, if_pos hi]; rfl
 rw [g0] at hF
 rw [show ((16 : Nat) : Int) = 16 from rfl] at g0 g1 g2 g3 go hF
 generalize (formatQ (16 : Int) (newDk (17 + pages))).2 = D1 at g1 g2 g3 go hF
 (repeat' first | refine X.rq ?_ | refine X.rc ?_ ?_ <;> intro hc <;> try omega)
 refine K.l_call (Fx.cal rfl) rfl hF (K.pp [0, 0, 0] rfl) rfl ?_
 rintro u h3 H' le3 ⟨rfl, M3, -, rfl⟩
 (repeat' first | refine X.rq ?_ | refine X.rc ?_ ?_ <;> intro hc <;> try omega)
 refine K.l_call (Fx.cal rfl) rfl (Wl.Open _ d M3 D1 g3.ok (by rw [g3.cache]; decide)) (K.pp [0, 0, 0] rfl) rfl ?_
 rintro u h4 H' le4 ⟨r, D4, M4, H4, hop, rfl, hV⟩
 have go2 := oth_open (n := 16) hop g3.ok (by rw [g3.cache]; decide) (fun m hm => by
  obtain ⟨_, _, h3⟩ := rm_sem g3.v0 g3.mas g3.n1 g3.n2 g3.base (by have := g3.fin'; omega)
  rcases h3 with ⟨e, _⟩ | ⟨e, _⟩
  ·rw [hm] at e
   cases e
   exact Nat.le_refl _
  ·rw [hm] at e; cases e) (by rw [g2, kl0]; omega)
 obtain ⟨g4, g5, L4, rfl, g6, gm⟩ := open_run g3 g1 hop
 obtain ⟨l, W, sv, rfl, hrs, hst, rfl⟩ := hV
 obtain ⟨es4, hs4, he4, _⟩ := hrs
 obtain ⟨a4, c4, rfl⟩ := hs4.len
 have he0 : es4.length = 0 := by rw [he4]; rfl
 rw [he0]
 have q1 := g6.str
 have q2 := g6.sts
 have q3 := g6.dur
 obtain ⟨mm, ss, st, du⟩ := L4
 dsimp only at gm q1 q2 q3 hst
 subst gm q1 q2
 rw [show (master0 16).base + lenQ (([] : List Recd).take 0 |>.take 0) = 1 from rfl] at q3
 subst q3
 have w1 : bytesQ [] = [] := rfl
 have w2 : startsQ (master0 16).base [] = [] := rfl
 simp only [List.take_nil, w1, w2] at g6 hst ⊢
 rw [show (⟨master0 16, [], [], 1⟩ : Lg) = L0 from rfl] at g6 ⊢
 have hlen : D4.kept.length = 17 + pages := by rw [g5, g2, kl0]
 have hbeg : Begun pages D4 := ⟨g6, g4, hlen, fun i h1 h2 => by
  rw [go2.view i h1 (by rw [g2, kl0]; exact h2), go.view i h1 (by rw [kl0]; exact h2), hv0 i h2]⟩
 have hpq : pagesQ L0 D4 = (pages : Int) := by unfold pagesQ; rw [hlen]; show ((17 + pages : Nat) : Int) - 1 - ((16 : Nat) : Int) = _; omega
 have hN := QNew h4 d l W L0 M4 D4 (frames : Int) (by rw [hlen]; omega) (by decide) (by decide)
 rw [hpq, Int.toNat_natCast] at hN
 (repeat' first | refine X.rq ?_ | refine X.rc ?_ ?_ <;> intro hc <;> try omega)
 refine K.l_call (Fx.cal rfl) rfl hN (K.pp [0, 0, 0, 0, 0, 0] rfl) rfl ?_
 rintro u h' H' - ⟨e, hN2⟩
 obtain rfl := e.symm
 rcases hN2 with ⟨_, _, _, q, M, rfl, rfl⟩ | ⟨hx, _⟩
 rotate_left
 ·exfalso; exact hx ⟨by omega, by omega, by omega⟩
 have hPg := QPages h4 q d l W L0 M4 D4 M (newPo frames) (by rw [hlen]; omega) (by decide)
 rw [hpq] at hPg
 unfold poA poR poB poV lgA dkA
 unfold poB poV lgA dkA at hPg
 simp only [List.cons_append, List.nil_append] at hPg ⊢
 (repeat' first | refine X.rq ?_ | refine X.rc ?_ ?_ <;> intro hc <;> try omega)
 refine K.l_callV (Fx.cal rfl) rfl hPg (K.pp [0, 0, 0, 0, 0, 0, 0] rfl) rfl rfl ?_
 simp only [List.cons_append, List.nil_append]
 simp only [Go.K.nmz]
 (repeat' first | refine X.rq ?_ | refine X.rc ?_ ?_ <;> intro hc <;> try omega)
 refine X.drawJ ([]) [] (.pu 0 (.pu 1 (.pu 2 (.pu 3 (.pu 4 (.pu 6 (.pu 7 (.pu 9 (.pu 10 (.alt 5 (.alt 8 (.on 11 (.pu 12 (.on 13 (.pu 14 (.pu 15 .nil))))) (.on 11 (.on 8 (.pu 12 (.on 13 (.pu 14 (.pu 15 .nil))))))) (.alt 8 (.alt 5 (.on 11 (.pu 12 (.on 13 (.pu 14 (.pu 15 .nil))))) (.on 11 (.on 5 (.pu 12 (.on 13 (.pu 14 (.pu 15 .nil))))))) (.on 11 (.alt 5 (.on 8 (.pu 12 (.on 13 (.pu 14 (.pu 15 .nil))))) (.on 8 (.on 5 (.pu 12 (.on 13 (.pu 14 (.pu 15 .nil))))))))))))))))))) (fun r : Nat × Nat × Nat × Nat => [(4, pv r.1), (5, .bool true)]) (fun _ => h4) (fun r => blk r.1 35 (stV d l q r.2.1 r.2.2.1 r.2.2.2 (pages + 1)) :: bufA 41 4 (some r.2.1) (pages + 1) (pages + 1) (List.replicate (pages + 1) zPg).flatten :: bufA 37 1 (some r.2.2.1) (pages + 1) (pages + 1) (List.replicate (pages + 1) [Value.int .u64 0]).flatten :: bufA 4 1 (some r.2.2.2) (pages + 1) (pages + 1) (List.replicate (pages + 1) [Value.bool false]).flatten :: (poA q d l W L0 M4 D4 M (newPo frames) ++ F)) ?_ ?_
 ·refine K.d_pu rfl (fun _ _ => X.mv) rfl ?_
  refine K.d_pu rfl (fun _ _ => X.mv) rfl ?_
  refine K.d_pu rfl (fun _ _ => X.mv) rfl ?_
  refine K.d_pu rfl (fun _ _ => X.mv) rfl ?_
  refine K.d_pu rfl (fun _ _ => X.badd) rfl ?_
  refine K.d_pu rfl (fun _ _ => X.mv) rfl ?_
  refine K.d_pu rfl (fun _ _ => X.badd) rfl ?_
  refine K.d_pu rfl (fun _ _ => X.mv) rfl ?_
  refine K.d_pu rfl (fun _ _ => X.badd) rfl ?_
  refine K.d_alt ?_ ?_
  ·refine K.d_on rfl (fun KK hKK => ?_)
   refine K.l_makeSlice (m := pages + 1) (c := pages + 1) (Fx.und rfl) (Fx.sz rfl) (Fx.zr rfl) rfl (Fx.byt rfl) rfl rfl (Nat.le_refl _) (by omega) (by unfold maxLen; omega) rfl (fun bi => ?_)
   rw [show (madeCells (Value.agg #[.int .i64 0, .int .u64 0, .int .u32 0, .slice none 0 0]).cells ((pages + 1) * 4)).toList.take ((pages + 1) * 4) = (List.replicate (pages + 1) zPg).flatten from Wl.made_rows zPg (pages + 1) (pages + 1) (Nat.le_refl _) (Nat.succ_pos _)]
   refine K.l_nil ?_
   refine X.onE hKK ?_
   refine K.d_alt ?_ ?_
   ·refine K.d_on rfl (fun KK hKK => ?_)
    refine K.l_makeSlice (m := pages + 1) (c := pages + 1) (Fx.und rfl) (Fx.sz rfl) (Fx.zr rfl) rfl (Fx.byt rfl) rfl rfl (Nat.le_refl _) (by omega) (by unfold maxLen; omega) rfl (fun bf => ?_)
    rw [made1 _ rfl]
    refine K.l_nil ?_
    refine X.onE hKK ?_
    refine K.d_on rfl (fun KK hKK => ?_)
    refine K.l_makeSlice (m := pages + 1) (c := pages + 1) (Fx.und rfl) (Fx.sz rfl) (Fx.zr rfl) rfl (Fx.byt rfl) rfl rfl (Nat.le_refl _) (by omega) (by unfold maxLen; omega) rfl (fun bp => ?_)
    rw [made1 _ rfl]
    refine K.l_nil ?_
    refine X.onE hKK ?_
    refine K.d_pu rfl (fun _ _ => X.bd) rfl ?_
    refine K.d_on rfl (fun KK hKK => ?_)
    refine K.l_box rfl rfl rfl (fun bs => ?_)
    refine K.l_nil ?_
    refine X.onE hKK ?_
    refine K.d_pu rfl (fun _ _ => X.sg) rfl ?_
    refine K.d_pu rfl (fun _ _ => X.sg) rfl ?_
    refine K.d_nil ?_
    refine K.AT.perm (K.pp [0, 2, 1, 0] rfl) ?_
    exact K.joined (bs, bi, bf, bp) (by repeat (first | exact K.Sub.nil _ | refine K.Sub.cons rfl ?_)) rfl rfl
   refine K.d_on rfl (fun KK hKK => ?_)
   refine K.l_makeSlice (m := pages + 1) (c := pages + 1) (Fx.und rfl) (Fx.sz rfl) (Fx.zr rfl) rfl (Fx.byt rfl) rfl rfl (Nat.le_refl _) (by omega) (by unfold maxLen; omega) rfl (fun bp => ?_)
   rw [made1 _ rfl]
   refine K.l_nil ?_
   refine X.onE hKK ?_
   refine K.d_on rfl (fun KK hKK => ?_)
   refine K.l_makeSlice (m := pages + 1) (c := pages + 1) (Fx.und rfl) (Fx.sz rfl) (Fx.zr rfl) rfl (Fx.byt rfl) rfl rfl (Nat.le_refl _) (by omega) (by unfold maxLen; omega) rfl (fun bf => ?_)
   rw [made1 _ rfl]
   refine K.l_nil ?_
   refine X.onE hKK ?_
   refine K.d_pu rfl (fun _ _ => X.bd) rfl ?_
   refine K.d_on rfl (fun KK hKK => ?_)
   refine K.l_box rfl rfl rfl (fun bs => ?_)
   refine K.l_nil ?_
   refine X.onE hKK ?_
   refine K.d_pu rfl (fun _ _ => X.sg) rfl ?_
   refine K.d_pu rfl (fun _ _ => X.sg) rfl ?_
   refine K.d_nil ?_
   refine K.AT.perm (K.pp [0, 2, 0, 0] rfl) ?_
   exact K.joined (bs, bi, bf, bp) (by repeat (first | exact K.Sub.nil _ | refine K.Sub.cons rfl ?_)) rfl rfl
  refine K.d_alt ?_ ?_
  ·refine K.d_on rfl (fun KK hKK => ?_)
   refine K.l_makeSlice (m := pages + 1) (c := pages + 1) (Fx.und rfl) (Fx.sz rfl) (Fx.zr rfl) rfl (Fx.byt rfl) rfl rfl (Nat.le_refl _) (by omega) (by unfold maxLen; omega) rfl (fun bf => ?_)
   rw [made1 _ rfl]
   refine K.l_nil ?_
   refine X.onE hKK ?_
   refine K.d_alt ?_ ?_
   ·refine K.d_on rfl (fun KK hKK => ?_)
    refine K.l_makeSlice (m := pages + 1) (c := pages + 1) (Fx.und rfl) (Fx.sz rfl) (Fx.zr rfl) rfl (Fx.byt rfl) rfl rfl (Nat.le_refl _) (by omega) (by unfold maxLen; omega) rfl (fun bi => ?_)
    rw [show (madeCells (Value.agg #[.int .i64 0, .int .u64 0, .int .u32 0, .slice none 0 0]).cells ((pages + 1) * 4)).toList.take ((pages + 1) * 4) = (List.replicate (pages + 1) zPg).flatten from Wl.made_rows zPg (pages + 1) (pages + 1) (Nat.le_refl _) (Nat.succ_pos _)]
    refine K.l_nil ?_
    refine X.onE hKK ?_
    refine K.d_on rfl (fun KK hKK => ?_)
    refine K.l_makeSlice (m := pages + 1) (c := pages + 1) (Fx.und rfl) (Fx.sz rfl) (Fx.zr rfl) rfl (Fx.byt rfl) rfl rfl (Nat.le_refl _) (by omega) (by unfold maxLen; omega) rfl (fun bp => ?_)
    rw [made1 _ rfl]
    refine K.l_nil ?_
    refine X.onE hKK ?_
    refine K.d_pu rfl (fun _ _ => X.bd) rfl ?_
    refine K.d_on rfl (fun KK hKK => ?_)
    refine K.l_box rfl rfl rfl (fun bs => ?_)
    refine K.l_nil ?_
    refine X.onE hKK ?_
    refine K.d_pu rfl (fun _ _ => X.sg) rfl ?_
    refine K.d_pu rfl (fun _ _ => X.sg) rfl ?_
    refine K.d_nil ?_
    refine K.AT.perm (K.pp [0, 1, 1, 0] rfl) ?_
    exact K.joined (bs, bi, bf, bp) (by repeat (first | exact K.Sub.nil _ | refine K.Sub.cons rfl ?_)) rfl rfl
   refine K.d_on rfl (fun KK hKK => ?_)
   refine K.l_makeSlice (m := pages + 1) (c := pages + 1) (Fx.und rfl) (Fx.sz rfl) (Fx.zr rfl) rfl (Fx.byt rfl) rfl rfl (Nat.le_refl _) (by omega) (by unfold maxLen; omega) rfl (fun bp => ?_)
   rw [made1 _ rfl]
   refine K.l_nil ?_
   refine X.onE hKK ?_
   refine K.d_on rfl (fun KK hKK => ?_)
   refine K.l_makeSlice (m := pages + 1) (c := pages + 1) (Fx.und rfl) (Fx.sz rfl) (Fx.zr rfl) rfl (Fx.byt rfl) rfl rfl (Nat.le_refl _) (by omega) (by unfold maxLen; omega) rfl (fun bi => ?_)
   rw [show (madeCells (Value.agg #[.int .i64 0, .int .u64 0, .int .u32 0, .slice none 0 0]).cells ((pages + 1) * 4)).toList.take ((pages + 1) * 4) = (List.replicate (pages + 1) zPg).flatten from Wl.made_rows zPg (pages + 1) (pages + 1) (Nat.le_refl _) (Nat.succ_pos _)]
   refine K.l_nil ?_
   refine X.onE hKK ?_
   refine K.d_pu rfl (fun _ _ => X.bd) rfl ?_
   refine K.d_on rfl (fun KK hKK => ?_)
   refine K.l_box rfl rfl rfl (fun bs => ?_)
   refine K.l_nil ?_
   refine X.onE hKK ?_
   refine K.d_pu rfl (fun _ _ => X.sg) rfl ?_
   refine K.d_pu rfl (fun _ _ => X.sg) rfl ?_
   refine K.d_nil ?_
   refine K.AT.perm (K.pp [0, 0, 1, 0] rfl) ?_
   exact K.joined (bs, bi, bf, bp) (by repeat (first | exact K.Sub.nil _ | refine K.Sub.cons rfl ?_)) rfl rfl
  refine K.d_on rfl (fun KK hKK => ?_)
  refine K.l_makeSlice (m := pages + 1) (c := pages + 1) (Fx.und rfl) (Fx.sz rfl) (Fx.zr rfl) rfl (Fx.byt rfl) rfl rfl (Nat.le_refl _) (by omega) (by unfold maxLen; omega) rfl (fun bp => ?_)
  rw [made1 _ rfl]
  refine K.l_nil ?_
  refine X.onE hKK ?_
  refine K.d_alt ?_ ?_
  ·refine K.d_on rfl (fun KK hKK => ?_)
   refine K.l_makeSlice (m := pages + 1) (c := pages + 1) (Fx.und rfl) (Fx.sz rfl) (Fx.zr rfl) rfl (Fx.byt rfl) rfl rfl (Nat.le_refl _) (by omega) (by unfold maxLen; omega) rfl (fun bi => ?_)
   rw [show (madeCells (Value.agg #[.int .i64 0, .int .u64 0, .int .u32 0, .slice none 0 0]).cells ((pages + 1) * 4)).toList.take ((pages + 1) * 4) = (List.replicate (pages + 1) zPg).flatten from Wl.made_rows zPg (pages + 1) (pages + 1) (Nat.le_refl _) (Nat.succ_pos _)]
   refine K.l_nil ?_
   refine X.onE hKK ?_
   refine K.d_on rfl (fun KK hKK => ?_)
   refine K.l_makeSlice (m := pages + 1) (c := pages + 1) (Fx.und rfl) (Fx.sz rfl) (Fx.zr rfl) rfl (Fx.byt rfl) rfl rfl (Nat.le_refl _) (by omega) (by unfold maxLen; omega) rfl (fun bf => ?_)
   rw [made1 _ rfl]
   refine K.l_nil ?_
   refine X.onE hKK ?_
   refine K.d_pu rfl (fun _ _ => X.bd) rfl ?_
   refine K.d_on rfl (fun KK hKK => ?_)
   refine K.l_box rfl rfl rfl (fun bs => ?_)
   refine K.l_nil ?_
   refine X.onE hKK ?_
   refine K.d_pu rfl (fun _ _ => X.sg) rfl ?_
   refine K.d_pu rfl (fun _ _ => X.sg) rfl ?_
   refine K.d_nil ?_
   refine K.AT.perm (K.pp [0, 1, 0, 0] rfl) ?_
   exact K.joined (bs, bi, bf, bp) (by repeat (first | exact K.Sub.nil _ | refine K.Sub.cons rfl ?_)) rfl rfl
  refine K.d_on rfl (fun KK hKK => ?_)
  refine K.l_makeSlice (m := pages + 1) (c := pages + 1) (Fx.und rfl) (Fx.sz rfl) (Fx.zr rfl) rfl (Fx.byt rfl) rfl rfl (Nat.le_refl _) (by omega) (by unfold maxLen; omega) rfl (fun bf => ?_)
  rw [made1 _ rfl]
  refine K.l_nil ?_
  refine X.onE hKK ?_
  refine K.d_on rfl (fun KK hKK => ?_)
  refine K.l_makeSlice (m := pages + 1) (c := pages + 1) (Fx.und rfl) (Fx.sz rfl) (Fx.zr rfl) rfl (Fx.byt rfl) rfl rfl (Nat.le_refl _) (by omega) (by unfold maxLen; omega) rfl (fun bi => ?_)
  rw [show (madeCells (Value.agg #[.int .i64 0, .int .u64 0, .int .u32 0, .slice none 0 0]).cells ((pages + 1) * 4)).toList.take ((pages + 1) * 4) = (List.replicate (pages + 1) zPg).flatten from Wl.made_rows zPg (pages + 1) (pages + 1) (Nat.le_refl _) (Nat.succ_pos _)]
  refine K.l_nil ?_
  refine X.onE hKK ?_
  refine K.d_pu rfl (fun _ _ => X.bd) rfl ?_
  refine K.d_on rfl (fun KK hKK => ?_)
  refine K.l_box rfl rfl rfl (fun bs => ?_)
  refine K.l_nil ?_
  refine X.onE hKK ?_
  refine K.d_pu rfl (fun _ _ => X.sg) rfl ?_
  refine K.d_pu rfl (fun _ _ => X.sg) rfl ?_
  refine K.d_nil ?_
  refine K.AT.perm (K.pp [0, 0, 0, 0] rfl) ?_
  exact K.joined (bs, bi, bf, bp) (by repeat (first | exact K.Sub.nil _ | refine K.Sub.cons rfl ?_)) rfl rfl
 refine fun r => ?_
 obtain ⟨bs, bi, bf, bp⟩ := r
 dsimp only
 (repeat' first | refine X.rq ?_ | refine X.rc ?_ ?_ <;> intro hc <;> try omega)
 exact K.dn (vs := [pv bs, .bool true]) rfl (le3.trans le4) (H' := begA bs d l q bi bf bp (pages + 1) W M4 D4 M (newPo frames)) rfl ⟨bs, d, l, q, bi, bf, bp, W, M4, D4, M, rfl, hbeg, hst, rfl⟩
end Go.Proofs.YtijbhgiigddjdaaGreat.Pl
end

section
namespace Go.Proofs.YtijbhgiigddjdaaGreat.Wl
open Go Go.K Go.Proofs Go.Proofs.YtijbhgiigddjdaaGreat Go.Proofs.YtijbhgiigddjdaaGreat.Pg Go.Proofs.YtijbhgiigddjdaaGreat.Cc Go.Proofs.YtijbhgiigddjdaaGreat.Rc
set_option maxRecDepth 10000

def rA1 : Recd := ⟨1, 0, 300, 0, 0, 0, 0, zO, [], [], [], 0⟩
def rA2 : Recd := ⟨1, 0, 1, 0, 0, 0, 0, zO, [], [], [], 0⟩
theorem wfR_plain (r : Recd) (h1 : in64 r.kind) (h2 : r.lsn = 0) (h3 : r.txn < 1000) (h4 : r.prev = 0) (h5 : r.undo = 0) (h6 : r.page < 1000) (h7 : r.root = 0) (h8 : r.op = zO) (h9 : r.images = []) (h10 : r.lives = []) (h11 : r.dirty = []) (h12 : r.next = 0) : wfR r := by
 refine ⟨h1, by omega, by omega, by omega, by omega, by omega, by omega, by rw [h8]; exact wf_zO, by omega, ?_, ?_, ?_, ?_, ?_⟩
 ·rw [h9]; exact Nat.zero_le _
 ·rw [h10]; exact Nat.zero_le _
 ·rw [h11]; exact Nat.zero_le _
 ·rw [h10]; intro x hx; cases hx
 ·rw [h11]; intro x hx; cases hx
theorem recC_A2 (h : Base) : RecC h (cR rA2 (.slice none 0 0) (.slice none 0 0) (.slice none 0 0) (.slice none 0 0)) rA2 := recC_of (r := rA2) (wfR_plain _ (by decide) rfl (by decide) rfl rfl (by decide) rfl rfl rfl rfl rfl rfl) BV.nil ImgsV.nil SL.nil SL.nil
theorem enc_A2 : encR rA2 = ([4, 0, 1, 1], 0) := by decide
theorem small_A2 : smallR rA2 := ⟨Nat.zero_le _, Nat.zero_le _, Nat.zero_le _, Nat.zero_le _⟩
end Go.Proofs.YtijbhgiigddjdaaGreat.Wl
end

section
namespace Go.Proofs.YtijbhgiigddjdaaGreat.Pl
open Go Go.K Go.Proofs Go.Proofs.YtijbhgiigddjdaaGreat Go.Proofs.YtijbhgiigddjdaaGreat.Pg Go.Proofs.YtijbhgiigddjdaaGreat.Wl Go.Proofs.YtijbhgiigddjdaaGreat.Rc
set_option maxRecDepth 10000

theorem read_on {D : Dk} (hn : NoTrip D) {a : Nat} (ha : a < D.kept.length) : Wl.readQ D (a : Int) = (.ok (V D a), D) := by
 unfold Wl.readQ
 rw [goes_on hn, if_neg (by omega)]
 show (Except.ok (viewQ D.kept D.cache (a : Int).toNat), D) = _
 rw [Int.toNat_natCast]
 rfl
theorem get_miss {L L' : Lg} {D D' : Dk} {P P' : Po} {n : Nat} {r : Except Int Pag} (h : GetR L D P n r P' L' D') (hin : hasQ L D n) (hno : ∀ x ∈ P.frs, x.n ≠ n) (hlt : P.frs.length < P.most) (hn : NoTrip D) :
  L' = L ∧ D' = D ∧ (((pageQ (V D (L.m.n + n))).2 ≠ 0 ∧ r = .error (pageQ (V D (L.m.n + n))).2 ∧ P' = P) ∨ ((pageQ (V D (L.m.n + n))).2 = 0 ∧ r = .ok (pageQ (V D (L.m.n + n))).1 ∧
   ∃ y, P' = setP (addP P y.b n) P.frs.length y ∧ y.n = n ∧ y.pg = (pageQ (V D (L.m.n + n))).1 ∧ y.fresh = false ∧ FrOk y)) := by
 have hl : L.m.n + n < D.kept.length := by have := hin.2; unfold pagesQ at this; omega
 have hr := read_on hn hl
 cases h with
 | no h => exact absurd hin h
 | hit i x h1 h2 h3 => exact absurd h3 (hno x (List.mem_of_getElem? h2))
 | dark e h1 h2 h3 =>
  unfold secP at h3
  rw [hr] at h3
  cases h3
 | bad b h1 h2 h3 h4 =>
  unfold secP at h3 ⊢
  rw [hr] at h3
  cases h3
  rw [hr]
  exact ⟨rfl, rfl, .inl ⟨h4, rfl, rfl⟩⟩
 | full b e P' L' D' h1 h2 h3 h4 h5 =>
  cases h5 with
  | fail frs hd x g1 g2 g3 g4 => omega
 | get b f i P' L' D' y h1 h2 h3 h4 h5 h6 h7 h8 h9 h10 =>
  unfold secP at h3 h5
  rw [hr] at h3 h5
  cases h3
  cases h5 with
  | add b g1 => exact ⟨rfl, rfl, .inr ⟨h4, rfl, y, by rw [h6], h7, h8, h9, h10⟩⟩
  | swap frs hd x g1 g2 g3 g4 => omega
theorem put_hit {L L' : Lg} {D D' : Dk} {P P' : Po} {n : Nat} {to : Pag} {e : Int} (h : PutR L D P n to e P' L' D') (hin : hasQ L D n) (hok : mayQ to = true ∨ zeroQ to = true) (hex : ∃ x ∈ P.frs, x.n = n) :
  e = 0 ∧ L' = L ∧ D' = D ∧ ∃ i x y, P.frs[i]? = some x ∧ x.n = n ∧ P' = putD (setP P i y) n to.lsn ∧ y.b = x.b ∧ y.n = n ∧ y.pg = to ∧ y.fresh = true ∧ FrOk y := by
 obtain ⟨x, hx, hxn⟩ := hex
 cases h with
 | no h => exact absurd hin h
 | bad h1 h2 h3 => rcases hok with h | h <;> simp_all
 | hit i x y h1 h2 h3 h4 h5 h6 h7 h8 h9 => exact ⟨rfl, rfl, rfl, i, x, y, h3, h4, rfl, h5, h6, h7, h8, h9⟩
 | full e P' L' D' h1 h2 h3 h4 => exact absurd hxn (h3 x hx)
 | put f i P' L' D' y h1 h2 h3 h4 h5 h6 h7 h8 h9 => exact absurd hxn (h3 x hx)
theorem wr_on {x : Fr} {L : Lg} {D : Dk} {rs : List Recd} {m : Nat} (h : RunP D L rs m) (hn : NoTrip D) (hl : L.m.n + x.n < D.kept.length) (hc : D.cache.length + 20000 ≤ roomMax) (hx : FrOk x) : (wrQ x L D).e = 0 ∧ NoTrip (wrQ x L D).D := by
 obtain ⟨f1, f2, f3, f4, f5, f6⟩ := flush_runP h hc
 have hlf : (lfQ x L D).1 = 0 ∧ NoTrip (lfQ x L D).2.2 ∧ (lfQ x L D).2.2.kept.length = D.kept.length := by
  unfold lfQ
  split
  ·exact ⟨(f1.on hn).1, (f1.on hn).2, f2⟩
  ·exact ⟨rfl, hn, rfl⟩
 obtain ⟨w1, _, _⟩ := write_sem (D := (lfQ x L D).2.2) (a := L.m.n + x.n) (b := pgB x.pg) (by rw [hlf.2.2]; exact hl) (pgB_len hx.may)
 obtain ⟨w2, w3⟩ := w1.on hlf.2.1
 unfold wrQ
 split
 ·exact ⟨rfl, hn⟩
 ·rw [if_neg (fun h => h hlf.1), if_neg (fun h => h w2)]
  exact ⟨rfl, w3⟩
end Go.Proofs.YtijbhgiigddjdaaGreat.Pl
end

section
namespace Go.K
section
variable {P : Program} {f : FuncId} {args : List Value} {h : Base} {A R : List Asrt} {Q Q' : Value → Base → List Asrt → Prop}
theorem Tr.bunch (ht : Tr P f args h A Q) (hq : ∀ u h' H', Q u h' H' → ∃ H2, Q' u h' H2 ∧ ∀ F w, Ok h' (H' ++ F) w → Ok h' (H2 ++ F) w) : Tr P f args h [all A] Q' := fun F w ok =>
 Calls.mono (ht F w (Ok.all_iff.1 ok)) fun e w' ⟨u, he, h1, H1, hle, q, ok1⟩ => by
  obtain ⟨H2, q2, hx⟩ := hq u h1 H1 q
  exact ⟨u, he, h1, H2, hle, q2, hx F w' ok1⟩
theorem Tr.frame (R : List Asrt) (ht : Tr P f args h A Q) : Tr P f args h (A ++ R) (fun u h' H' => ∃ H1, Q u h' H1 ∧ H' = H1 ++ R) := fun F w ok =>
 Calls.mono (ht (R ++ F) w (by rw [← List.append_assoc]; exact ok)) fun e w' ⟨u, he, h1, H1, hle, q, ok1⟩ => ⟨u, he, h1, H1 ++ R, hle, ⟨H1, q, rfl⟩, by rw [List.append_assoc]; exact ok1⟩
theorem Tr.pre {A' : List Asrt} (hp : A'.Perm A) (ht : Tr P f args h A Q) : Tr P f args h A' Q := fun F w ok => ht F w (ok.perm (hp.append_right F))
theorem WL.sel {n : NN} {ops : Array Oper} {Q : Exit → Act → World → Prop} {E : Env} {H : List Asrt} {L : List Oper} (is : List Nat) {A H' : List Asrt} (e : pick is H = some (A, H')) (hx : WL P n ops Q L E h H') : WL P n ops Q L E h H := WL.perm (pick_perm e) (WL.dropsA hx)
theorem ok_bunch {h : Base} {A H1 F : List Asrt} {w : World} (ok : Ok h ((H1 ++ A) ++ F) w) : Ok h ((all A :: H1) ++ F) w := by
 refine Ok.all_iff.2 (ok.perm ?_)
 have := (List.perm_append_comm (l₁ := H1) (l₂ := A)).append_right F
 rwa [List.append_assoc A H1 F] at this
end
end Go.K
namespace Go.Proofs.YtijbhgiigddjdaaGreat.Pl
open Go Go.K Go.Proofs Go.Proofs.YtijbhgiigddjdaaGreat Go.Proofs.YtijbhgiigddjdaaGreat.Pg Go.Proofs.YtijbhgiigddjdaaGreat.Wl
set_option maxRecDepth 10000

def PoolM (h : Base) (q d l : Nat) (L : Lg) (MD : DM) (D : Dk) (P : Po) (A : Asrt) : Prop := ∃ W M, StrOk h W L.stream ∧ A = all (poA q d l W L MD D M P)
def PageX (r : Except Int Pag) (u : Value) (H1 : List Asrt) : Prop := ∃ (p : Pag) (e : Int) (b : Option Nat) (cap : Nat) (l : List OC), u = .tuple #[.agg (cP p (bufV b l.length cap)).toArray, .int .i64 e] ∧ p.cells = l.map OC.cell ∧ okO l ∧ (r = .ok p ∧ e = 0 ∨ r = .error e ∧ p = ⟨0, 0, 0, []⟩) ∧ H1 = pgA b cap l
theorem ok_pgA {h : Base} {F : List Asrt} {w : World} (ok : Ok h F w) : Ok h (pgA none 0 [] ++ F) w := (Pg.Ok.allNil ok).nilBuf
theorem getX {h : Base} {r : Except Int Pag} {u : Value} {H1 : List Asrt} (hv : GetV r u H1) : ∃ H2, PageX r u H2 ∧ ∀ F w, Ok h (H1 ++ F) w → Ok h (H2 ++ F) w := by
 cases r with
 | ok p =>
  obtain ⟨b, cap, l, h1, h2, rfl, rfl⟩ := hv
  exact ⟨_, ⟨p, 0, b, cap, l, rfl, h1, h2, .inl ⟨rfl, rfl⟩, rfl⟩, fun F w ok => ok⟩
 | error e =>
  obtain ⟨rfl, rfl⟩ := hv
  exact ⟨_, ⟨⟨0, 0, 0, []⟩, e, none, 0, [], rfl, rfl, (fun c hc => by cases hc), .inr ⟨rfl, rfl⟩, rfl⟩, fun F w ok => ok_pgA ok⟩
def BGetPost (h : Base) (q d l : Nat) (L : Lg) (MD : DM) (D : Dk) (P : Po) (n : Nat) (u : Value) (h' : Base) (H' : List Asrt) : Prop :=
 h' = h ∧ ∃ r P' L' D' MD' A' H1, GetR L D P n r P' L' D' ∧ PageX r u H1 ∧ ((∃ x ∈ P.frs, x.n = n) → MD' = MD) ∧ ((∀ x ∈ P.frs, x.n ≠ n) → P.frs.length < P.most → ∀ p, r = .ok p → MD' = readM MD) ∧ PoolM h q d l L' MD' D' P' A' ∧ H' = A' :: H1
section
variable {h : Base} {q d l : Nat} {L : Lg} {MD : DM} {D : Dk} {P : Po} {A : Asrt}
theorem BGet (hA : PoolM h q d l L MD D P A) (n : Nat) (ho : LgOk L) (hk : DkOk D) (hr : D.cache.length + 40000 ≤ roomMax) (hP : PoOk P) (hp : 0 ≤ pagesQ L D) (hn : n < 4294967296) :
  Tr Tryz.prog 10 [pv q, .int .u32 n] h [A] (BGetPost h q d l L MD D P n) := by
 obtain ⟨W, M, hs, rfl⟩ := hA
 refine (QGet h q d l W L MD D M P n ho hs hk hr hP hp hn).bunch ?_
 rintro u h' H' ⟨rfl, r, P', L', D', MD', M', H1, hR, hV, h1, h2, rfl⟩
 obtain ⟨H2, hx, hok⟩ := getX (h := h') hV
 have hf := (hR.ok hP ho hk (by omega) hn).2.2.2.2.2.2.2
 refine ⟨all (poA q d l W L' MD' D' M' P') :: H2, ⟨rfl, r, P', L', D', MD', _, H2, hR, hx, h1, h2, ⟨W, M', ?_, rfl⟩, rfl⟩, fun F w ok => ?_⟩
 ·rw [(flushed_same hf).2.1]; exact hs
 ·rw [List.append_assoc] at ok
  exact ok_bunch (H1 := H2) (by rw [List.append_assoc]; exact hok _ _ ok)
theorem BPut (hA : PoolM h q d l L MD D P A) (n : Nat) (cs : List Value) (to : Pag) (hx : PagC h cs to) (ho : LgOk L) (hk : DkOk D) (hr : D.cache.length + 40000 ≤ roomMax) (hP : PoOk P) (hp : 0 ≤ pagesQ L D) (hn : n < 4294967296) :
  Tr Tryz.prog 15 [pv q, .int .u32 n, .agg cs.toArray] h [A] (fun u h' H' => h' = h ∧ ∃ e P' L' D' MD' A', PutR L D P n to e P' L' D' ∧ u = .int .i64 e ∧ PoolM h q d l L' MD' D' P' A' ∧ H' = [A']) := by
 obtain ⟨W, M, hs, rfl⟩ := hA
 refine (QPut h q d l W L MD D M P n cs to hx ho hs hk hr hP hp hn).bunch ?_
 rintro u h' H' ⟨rfl, e, P', L', D', MD', M', hR, rfl, rfl⟩
 have hf := (hR.ok hP ho hk (by omega) hn).2.2.2.2.2
 refine ⟨[all (poA q d l W L' MD' D' M' P')], ⟨rfl, e, P', L', D', MD', _, hR, rfl, ⟨W, M', ?_, rfl⟩, rfl⟩, fun F w ok => ok_bunch (H1 := []) ok⟩
 rw [(flushed_same hf).2.1]; exact hs
theorem BFlushAll (hA : PoolM h q d l L MD D P A) (ho : LgOk L) (hk : DkOk D) (hr : D.cache.length + P.most * 9001 + 40000 ≤ roomMax) (hP : PoOk P) :
  Tr Tryz.prog 18 [pv q] h [A] (fun u h' H' => h' = h ∧ ∃ e P' L' D' MD' A', AllR L D P e P' L' D' ∧ u = .int .i64 e ∧ (P.dl = [] → MD' = MD) ∧ (L'.stream = L.stream → PoolM h q d l L' MD' D' P' A') ∧ H' = [A']) := by
 obtain ⟨W, M, hs, rfl⟩ := hA
 refine (QFlush h q d l W L MD D M P ho hs hk hr hP).bunch ?_
 rintro u h' H' ⟨rfl, e, P', L', D', MD', hR, rfl, h2, rfl⟩
 exact ⟨[all (poA q d l W L' MD' D' M P')], ⟨rfl, e, P', L', D', MD', _, hR, rfl, h2, fun hst => ⟨W, M, by rw [hst]; exact hs, rfl⟩, rfl⟩, fun F w ok => ok_bunch (H1 := []) ok⟩
theorem poA_log {W : LM} {M : PM} : (poA q d l W L MD D M P).Perm (lgA l d W L ++ (poB q d l M P :: (dkA d MD D ++ poR M P))) := by
 unfold poA
 rw [List.append_assoc]
 exact List.perm_middle.symm
theorem poA_disk {W : LM} {M : PM} : (poA q d l W L MD D M P).Perm (dkA d MD D ++ (poB q d l M P :: (lgA l d W L ++ poR M P))) := by
 unfold poA
 refine List.Perm.trans (List.Perm.cons _ ?_) List.perm_middle.symm
 rw [← List.append_assoc]
 exact List.perm_append_comm.append_right _
theorem poA_dirty {W : LM} {M : PM} : (poA q d l W L MD D M P).Perm ([poB q d l M P, mapA M.dm .u32 P.dl P.dc] ++ (lgA l d W L ++ dkA d MD D ++ [bufA 103 1 M.fa P.frs.length M.fk (P.frs.map frP), mapA M.wm .u32 P.wl P.wc, all (P.frs.map frA)])) := by
 exact K.pp [0, 8] rfl
theorem BDirty (hA : PoolM h q d l L MD D P A) (hm : MapOk P.dl P.dc) (h1 : OneD P.dl) :
  Tr Tryz.prog 17 [pv q] h [A] (fun u h' H' => h' = h ∧ ∃ a cap, u = bufV a P.dl.length cap ∧ H' = [A, bufA 94 2 a P.dl.length cap (dirC P.dl)]) := by
 obtain ⟨W, M, hs, rfl⟩ := hA
 refine (((QDirty h q d l M P hm h1).frame (lgA l d W L ++ dkA d MD D ++ [bufA 103 1 M.fa P.frs.length M.fk (P.frs.map frP), mapA M.wm .u32 P.wl P.wc, all (P.frs.map frA)])).pre poA_dirty).bunch ?_
 rintro u h' H' ⟨H1, ⟨rfl, a, cap, rfl, rfl⟩, rfl⟩
 refine ⟨_, ⟨rfl, a, cap, rfl, rfl⟩, fun F w ok => ok_bunch (H1 := [_]) (ok.perm ?_)⟩
 refine List.Perm.append_right F ?_
 exact List.Perm.trans (List.Perm.trans (List.Perm.append_right _ (List.perm_append_comm (l₁ := [poB q d l M P, mapA M.dm .u32 P.dl P.dc]) (l₂ := [_]))) (by rw [List.append_assoc])) (List.Perm.append_left _ poA_dirty.symm)
theorem BAppend (hA : PoolM h q d l L MD D P A) (ho : LgOk L) (cs : List Value) (r : Rc.Recd) (hx : Rc.RecC h cs r) (hsm : Rc.smallR r) :
  Tr Tryz.prog 30 [pv l, .agg cs.toArray] h [A] (fun u h' H' => h' = h ∧ u = .tuple #[Wl.n64 (appQ L r).1.1, .int .i64 (appQ L r).1.2] ∧ ∃ A', PoolM h q d l (appQ L r).2 MD D P A' ∧ H' = [A']) := by
 obtain ⟨W, M, hs, rfl⟩ := hA
 refine (((Append h l d W L ho hs cs r hx hsm).frame (poB q d l M P :: (dkA d MD D ++ poR M P))).pre poA_log).bunch ?_
 rintro u h' H' ⟨H1, ⟨rfl, rfl, W', hs', rfl⟩, rfl⟩
 exact ⟨[all (poA q d l W' (appQ L r).2 MD D M P)], ⟨rfl, rfl, _, ⟨W', M, hs', rfl⟩, rfl⟩, fun F w ok => ok_bunch (H1 := []) (ok.perm (poA_log.symm.append_right F))⟩
theorem BWrite (hA : PoolM h q d l L MD D P A) (at_ : Int) (v : Value) (b : Sec) (hk : DkOk D) (ha1 : -9223372036854775808 ≤ at_) (ha2 : at_ ≤ 9223372036854775807) (hb : BV h v b) (hbl : b.length ≤ 9223372036854775807) :
  Tr Tryz.prog 9 [dv d, .int .i64 at_, v] h [A] (fun u h' H' => h' = h ∧ u = .int .i64 (writeQ D at_ b).1 ∧ ∃ MD' A', PoolM h q d l L MD' (writeQ D at_ b).2 P A' ∧ H' = [A']) := by
 obtain ⟨W, M, hs, rfl⟩ := hA
 refine (((K.Tr.forget (Write h d MD D at_ v b hk ha1 ha2 hb hbl)).frame (poB q d l M P :: (lgA l d W L ++ poR M P))).pre poA_disk).bunch ?_
 rintro u h' H' ⟨H1, ⟨rfl, rfl, ac, cap, c, rfl⟩, rfl⟩
 exact ⟨[all (poA q d l W L _ (writeQ D at_ b).2 M P)], ⟨rfl, rfl, _, _, ⟨W, M, hs, rfl⟩, rfl⟩, fun F w ok => ok_bunch (H1 := []) (ok.perm (poA_disk.symm.append_right F))⟩
theorem BDurable (hA : PoolM h q d l L MD D P A) : TrV Tryz.prog 31 [pv l] h [A] (Wl.n64 L.durable) [A] := by
 obtain ⟨W, M, hs, rfl⟩ := hA
 refine ((K.Tr.frame (poB q d l M P :: (dkA d MD D ++ poR M P)) (LDurable h l d W L)).pre poA_log).bunch ?_
 rintro u h' H' ⟨H1, ⟨rfl, rfl, rfl⟩, rfl⟩
 exact ⟨_, ⟨rfl, rfl, rfl⟩, fun F w ok => ok_bunch (H1 := []) (ok.perm (poA_log.symm.append_right F))⟩
theorem BEnd (hA : PoolM h q d l L MD D P A) (ho : LgOk L) : TrV Tryz.prog 29 [pv l] h [A] (Wl.n64 (endQ L)) [A] := by
 obtain ⟨W, M, hs, rfl⟩ := hA
 refine ((K.Tr.frame (poB q d l M P :: (dkA d MD D ++ poR M P)) (LEnd h l d W L ho hs)).pre poA_log).bunch ?_
 rintro u h' H' ⟨H1, ⟨rfl, rfl, rfl⟩, rfl⟩
 exact ⟨_, ⟨rfl, rfl, rfl⟩, fun F w ok => ok_bunch (H1 := []) (ok.perm (poA_log.symm.append_right F))⟩
end
def begX (s d l q bi bf bp n : Nat) (A : Asrt) : List Asrt :=
 [blk s 35 (stV d l q bi bf bp n), A, bufA 41 4 (some bi) n n (List.replicate n zPg).flatten, bufA 37 1 (some bf) n n (List.replicate n [Value.int .u64 0]).flatten, bufA 4 1 (some bp) n n (List.replicate n [Value.bool false]).flatten]
theorem BBeg (h : Base) (pages frames : Nat) (hp1 : 1 ≤ pages) (hp2 : pages ≤ 60) (hf1 : 8 ≤ frames) (hf2 : frames ≤ 256) :
  Tr Tryz.prog 8 [.int .i64 pages, .int .i64 frames] h [] (fun u h' H' => ∃ s d l q bi bf bp MD D A, u = .tuple #[pv s, .bool true] ∧ Begun pages D ∧ PoolM h' q d l L0 MD D (newPo frames) A ∧ H' = begX s d l q bi bf bp (pages + 1) A) := fun F w ok =>
 Calls.mono (Beg h pages frames hp1 hp2 hf1 hf2 F w ok) fun e w' hx => by
  obtain ⟨u, he, h1, H1, hle, ⟨s, d, l, q, bi, bf, bp, W, MD, D, M, hu, hb, hs, rfl⟩, ok1⟩ := hx
  refine ⟨u, he, h1, begX s d l q bi bf bp (pages + 1) (all (poA q d l W L0 MD D M (newPo frames))), hle, ⟨s, d, l, q, bi, bf, bp, MD, D, _, hu, hb, ⟨W, M, hs, rfl⟩, rfl⟩, ?_⟩
  unfold begA at ok1
  unfold begX
  simp only [List.cons_append, List.nil_append] at ok1 ⊢
  refine Ok.perm (Ok.all_iff.2 (ok1.perm ?_)) (List.Perm.swap _ _ _)
  exact List.perm_append_comm (l₁ := [_, _, _, _]) (l₂ := poA q d l W L0 MD D M (newPo frames)) |>.append_right F |> fun hp => by
   simpa only [List.append_assoc, List.cons_append, List.nil_append] using hp
end Go.Proofs.YtijbhgiigddjdaaGreat.Pl
end
