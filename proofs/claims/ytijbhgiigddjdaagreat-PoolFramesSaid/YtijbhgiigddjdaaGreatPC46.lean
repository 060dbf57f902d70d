/-
 The law: an empty disk, its log, a pool. Conditions: each theorem's own.
-/
import Derived.Test.YtijbhgiigddjdaaGreatPC41
import Derived.Test.YtijbhgiigddjdaaGreatPC45
set_option linter.unusedVariables false
set_option linter.unusedSimpArgs false
set_option maxRecDepth 10000
set_option maxHeartbeats 16000000
namespace Go.Proofs.YtijbhgiigddjdaaGreat.Pl
open Go.K Pg Wl Rc

def L0 : Lg := ⟨master0 16, [], [], 1⟩
structure Begun (pages : Nat) (D : Dk) : Prop where
 run : Run D L0 [] 0
 on : NoTrip D
 len : D.kept.length = 17 + pages
 zero : ∀ i, 16 < i → i < 17 + pages → V D i = zs
def zPg : List Value := [.int .i64 0, .int .u64 0, .int .u32 0, .slice none 0 0]
def stV (d l q bi bf bp n : Nat) : List Value := [dv d, pv l, pv q, .slice (some ⟨bi, 0, none⟩) n n, .slice (some ⟨bf, 0, none⟩) n n, .slice (some ⟨bp, 0, none⟩) n n, .slice none 0 0]
def begA (s d l q bi bf bp n : Nat) (W : LM) (MD : DM) (D : Dk) (M : PM) (P : Po) : List Asrt :=
 blk s 35 (stV d l q bi bf bp n) :: bufA 41 4 (some bi) n n (List.replicate n zPg).flatten :: bufA 37 1 (some bf) n n (List.replicate n [Value.int .u64 0]).flatten :: bufA 4 1 (some bp) n n (List.replicate n [Value.bool false]).flatten :: poA q d l W L0 MD D M P
theorem made1 (z : Value) (hz : z.cells = #[z]) (k : Nat) : (madeCells z.cells (k * 1)).toList.take (k * 1) = (List.replicate k [z]).flatten := by
 rw [hz]
 exact Wl.made_rows [z] k k (Nat.le_refl _) (Nat.succ_pos _)
theorem Beg (h : Base) (pages frames : Nat) (hp1 : 1 ≤ pages) (hp2 : pages ≤ 60) (hf1 : 8 ≤ frames) (hf2 : frames ≤ 256) :
  Tr Tryz.prog 8 [.int .i64 pages, .int .i64 frames] h [] (fun u h' H' => ∃ s d l q bi bf bp W MD D M, u = .tuple #[pv s, .bool true] ∧ Begun pages D ∧ StrOk h' W [] ∧ H' = begA s d l q bi bf bp (pages + 1) W MD D M (newPo frames)) := by
 refine K.en Tryz.func8 fun F => ?_
 simp only [List.nil_append]
 (repeat' first | refine X.rq ?_ | refine X.rc ?_ ?_ <;> intro hc <;> try omega)
 rw [show (17 : Int) + (pages : Int) = ((17 + pages : Nat) : Int) by omega]
 refine K.l_call (Fx.cal rfl) rfl (Wl.New h ((17 + pages : Nat) : Int) (by omega) (by omega)) (K.pp [] rfl) rfl ?_
 rintro u h1 H' - ⟨rfl, hne⟩
 rcases hne with ⟨_, _, d, M, rfl, rfl⟩ | ⟨hx, _⟩
 rotate_left
 ·exfalso; exact hx ⟨by omega, by omega⟩
 rw [Int.toNat_natCast]
 have k0 : DkOk (newDk (17 + pages)) := newOk (by omega) (by omega)
 have kl0 : (newDk (17 + pages)).kept.length = 17 + pages := List.length_replicate
 obtain ⟨g0, g1, g2, g3⟩ := format_run (D := newDk (17 + pages)) (n := 16) k0 rfl ⟨rfl, rfl⟩ (Nat.le_refl _) (by rw [kl0]; omega)
 have go := oth_format (n := 16) (D := newDk (17 + pages)) (Nat.le_refl _) (by rw [kl0]; omega)
 have hF := Wl.Format h1 d M (newDk (17 + pages)) ((16 : Nat) : Int) k0 (by show 0 + 10000 ≤ roomMax; decide)
 have hv0 : ∀ i, i < 17 + pages → V (newDk (17 + pages)) i = zs := fun i hi => by
  show (List.replicate (17 + pages) zs).getD i [] = zs
  rw [List.getD_eq_getElem?_getD, List.getElem?_replicate, if_pos hi]; rfl
 rw [g0] at hF
 rw [show ((16 : Nat) : Int) = 16 from rfl] at g0 g1 g2 g3 go hF
 generalize (formatQ (16 : Int) (newDk (17 + pages))).2 = D1 at g1 g2 g3 go hF
 (repeat' first | refine X.rq ?_ | refine X.rc ?_ ?_ <;> intro hc <;> try omega)
 refine K.l_call (Fx.cal rfl) rfl hF (K.pp [0, 0, 0] rfl) rfl ?_
 rintro u h3 H' le3 ⟨rfl, M3, -, rfl⟩
 (repeat' first | refine X.rq ?_ | refine X.rc ?_ ?_ <;> intro hc <;> try omega)
 refine K.l_call (Fx.cal rfl) rfl (Wl.Open _ d M3 D1 g3.ok (by rw [g3.cache]; decide)) (K.pp [0, 0, 0] rfl) rfl ?_
 rintro u h4 H' le4 ⟨r, D4, M4, H4, hop, rfl, hV⟩
 have go2 := oth_open (n := 16) hop g3.ok (by rw [g3.cache]; decide) (fun m hm => by
  obtain ⟨_, _, h3⟩ := rm_sem g3.v0 g3.mas g3.n1 g3.n2 g3.base (by have := g3.fin'; omega)
  rcases h3 with ⟨e, _⟩ | ⟨e, _⟩
  ·rw [hm] at e
   cases e
   exact Nat.le_refl _
  ·rw [hm] at e; cases e) (by rw [g2, kl0]; omega)
 obtain ⟨g4, g5, L4, rfl, g6, gm⟩ := open_run g3 g1 hop
 obtain ⟨l, W, sv, rfl, hrs, hst, rfl⟩ := hV
 obtain ⟨es4, hs4, he4, _⟩ := hrs
 obtain ⟨a4, c4, rfl⟩ := hs4.len
 have he0 : es4.length = 0 := by rw [he4]; rfl
 rw [he0]
 have q1 := g6.str
 have q2 := g6.sts
 have q3 := g6.dur
 obtain ⟨mm, ss, st, du⟩ := L4
 dsimp only at gm q1 q2 q3 hst
 subst gm q1 q2
 rw [show (master0 16).base + lenQ (([] : List Recd).take 0 |>.take 0) = 1 from rfl] at q3
 subst q3
 have w1 : bytesQ [] = [] := rfl
 have w2 : startsQ (master0 16).base [] = [] := rfl
 simp only [List.take_nil, w1, w2] at g6 hst ⊢
 rw [show (⟨master0 16, [], [], 1⟩ : Lg) = L0 from rfl] at g6 ⊢
 have hlen : D4.kept.length = 17 + pages := by rw [g5, g2, kl0]
 have hbeg : Begun pages D4 := ⟨g6, g4, hlen, fun i h1 h2 => by
  rw [go2.view i h1 (by rw [g2, kl0]; exact h2), go.view i h1 (by rw [kl0]; exact h2), hv0 i h2]⟩
 have hpq : pagesQ L0 D4 = (pages : Int) := by unfold pagesQ; rw [hlen]; show ((17 + pages : Nat) : Int) - 1 - ((16 : Nat) : Int) = _; omega
 have hN := QNew h4 d l W L0 M4 D4 (frames : Int) (by rw [hlen]; omega) (by decide) (by decide)
 rw [hpq, Int.toNat_natCast] at hN
 (repeat' first | refine X.rq ?_ | refine X.rc ?_ ?_ <;> intro hc <;> try omega)
 refine K.l_call (Fx.cal rfl) rfl hN (K.pp [0, 0, 0, 0, 0, 0] rfl) rfl ?_
 rintro u h' H' - ⟨e, hN2⟩
 obtain rfl := e.symm
 rcases hN2 with ⟨_, _, _, q, M, rfl, rfl⟩ | ⟨hx, _⟩
 rotate_left
 ·exfalso; exact hx ⟨by omega, by omega, by omega⟩
 have hPg := QPages h4 q d l W L0 M4 D4 M (newPo frames) (by rw [hlen]; omega) (by decide)
 rw [hpq] at hPg
 unfold poA poR poB poV lgA dkA
 unfold poB poV lgA dkA at hPg
 simp only [Go.K.cna] at hPg ⊢
 (repeat' first | refine X.rq ?_ | refine X.rc ?_ ?_ <;> intro hc <;> try omega)
 refine K.l_callV (Fx.cal rfl) rfl hPg (K.pp [0, 0, 0, 0, 0, 0, 0] rfl) rfl rfl ?_
 simp only [Go.K.cna]
 simp only [Go.K.nmz]
 (repeat' first | refine X.rq ?_ | refine X.rc ?_ ?_ <;> intro hc <;> try omega)
 refine X.drawJ ([]) [] (.pu 0 (.pu 1 (.pu 2 (.pu 3 (.pu 4 (.pu 6 (.pu 7 (.pu 9 (.pu 10 (.alt 5 (.alt 8 (.on 11 (.pu 12 (.on 13 (.pu 14 (.pu 15 .nil))))) (.on 11 (.on 8 (.pu 12 (.on 13 (.pu 14 (.pu 15 .nil))))))) (.alt 8 (.alt 5 (.on 11 (.pu 12 (.on 13 (.pu 14 (.pu 15 .nil))))) (.on 11 (.on 5 (.pu 12 (.on 13 (.pu 14 (.pu 15 .nil))))))) (.on 11 (.alt 5 (.on 8 (.pu 12 (.on 13 (.pu 14 (.pu 15 .nil))))) (.on 8 (.on 5 (.pu 12 (.on 13 (.pu 14 (.pu 15 .nil))))))))))))))))))) (fun r : Nat × Nat × Nat × Nat => [(4, pv r.1), (5, .bool true)]) (fun _ => h4) (fun r => blk r.1 35 (stV d l q r.2.1 r.2.2.1 r.2.2.2 (pages + 1)) :: bufA 41 4 (some r.2.1) (pages + 1) (pages + 1) (List.replicate (pages + 1) zPg).flatten :: bufA 37 1 (some r.2.2.1) (pages + 1) (pages + 1) (List.replicate (pages + 1) [Value.int .u64 0]).flatten :: bufA 4 1 (some r.2.2.2) (pages + 1) (pages + 1) (List.replicate (pages + 1) [Value.bool false]).flatten :: (poA q d l W L0 M4 D4 M (newPo frames) ++ F)) ?_ ?_
 ·refine X.u_mv ?_
  refine X.u_mv ?_
  refine X.u_mv ?_
  refine X.u_mv ?_
  refine X.u_badd ?_
  refine X.u_mv ?_
  refine X.u_badd ?_
  refine X.u_mv ?_
  refine X.u_badd ?_
  refine K.d_alt ?_ ?_
  ·refine K.d_on rfl (fun KK hKK => ?_)
   refine K.l_makeSlice (m := pages + 1) (c := pages + 1) (Fx.und rfl) (Fx.sz rfl) (Fx.zr rfl) rfl (Fx.byt rfl) rfl rfl (Nat.le_refl _) (by omega) (by unfold maxLen; omega) rfl (fun bi => ?_)
   rw [show (madeCells (Value.agg #[.int .i64 0, .int .u64 0, .int .u32 0, .slice none 0 0]).cells ((pages + 1) * 4)).toList.take ((pages + 1) * 4) = (List.replicate (pages + 1) zPg).flatten from Wl.made_rows zPg (pages + 1) (pages + 1) (Nat.le_refl _) (Nat.succ_pos _)]
   refine K.l_nil ?_
   refine X.onE hKK ?_
   refine K.d_alt ?_ ?_
   ·refine K.d_on rfl (fun KK hKK => ?_)
    refine K.l_makeSlice (m := pages + 1) (c := pages + 1) (Fx.und rfl) (Fx.sz rfl) (Fx.zr rfl) rfl (Fx.byt rfl) rfl rfl (Nat.le_refl _) (by omega) (by unfold maxLen; omega) rfl (fun bf => ?_)
    rw [made1 _ rfl]
    refine K.l_nil ?_
    refine X.onE hKK ?_
    refine K.d_on rfl (fun KK hKK => ?_)
    refine K.l_makeSlice (m := pages + 1) (c := pages + 1) (Fx.und rfl) (Fx.sz rfl) (Fx.zr rfl) rfl (Fx.byt rfl) rfl rfl (Nat.le_refl _) (by omega) (by unfold maxLen; omega) rfl (fun bp => ?_)
    rw [made1 _ rfl]
    refine K.l_nil ?_
    refine X.onE hKK ?_
    refine X.u_bd ?_
    refine K.d_on rfl (fun KK hKK => ?_)
    refine K.l_box rfl rfl rfl (fun bs => ?_)
    refine K.l_nil ?_
    refine X.onE hKK ?_
    refine X.u_sg ?_
    refine X.u_sg ?_
    refine K.d_nil ?_
    refine K.AT.perm (K.pp [0, 2, 1, 0] rfl) ?_
    exact K.joined (bs, bi, bf, bp) (by repeat (first | exact K.Sub.nil _ | refine K.Sub.cons rfl ?_)) rfl rfl
   refine K.d_on rfl (fun KK hKK => ?_)
   refine K.l_makeSlice (m := pages + 1) (c := pages + 1) (Fx.und rfl) (Fx.sz rfl) (Fx.zr rfl) rfl (Fx.byt rfl) rfl rfl (Nat.le_refl _) (by omega) (by unfold maxLen; omega) rfl (fun bp => ?_)
   rw [made1 _ rfl]
   refine K.l_nil ?_
   refine X.onE hKK ?_
   refine K.d_on rfl (fun KK hKK => ?_)
   refine K.l_makeSlice (m := pages + 1) (c := pages + 1) (Fx.und rfl) (Fx.sz rfl) (Fx.zr rfl) rfl (Fx.byt rfl) rfl rfl (Nat.le_refl _) (by omega) (by unfold maxLen; omega) rfl (fun bf => ?_)
   rw [made1 _ rfl]
   refine K.l_nil ?_
   refine X.onE hKK ?_
   refine X.u_bd ?_
   refine K.d_on rfl (fun KK hKK => ?_)
   refine K.l_box rfl rfl rfl (fun bs => ?_)
   refine K.l_nil ?_
   refine X.onE hKK ?_
   refine X.u_sg ?_
   refine X.u_sg ?_
   refine K.d_nil ?_
   refine K.AT.perm (K.pp [0, 2, 0, 0] rfl) ?_
   exact K.joined (bs, bi, bf, bp) (by repeat (first | exact K.Sub.nil _ | refine K.Sub.cons rfl ?_)) rfl rfl
  refine K.d_alt ?_ ?_
  ·refine K.d_on rfl (fun KK hKK => ?_)
   refine K.l_makeSlice (m := pages + 1) (c := pages + 1) (Fx.und rfl) (Fx.sz rfl) (Fx.zr rfl) rfl (Fx.byt rfl) rfl rfl (Nat.le_refl _) (by omega) (by unfold maxLen; omega) rfl (fun bf => ?_)
   rw [made1 _ rfl]
   refine K.l_nil ?_
   refine X.onE hKK ?_
   refine K.d_alt ?_ ?_
   ·refine K.d_on rfl (fun KK hKK => ?_)
    refine K.l_makeSlice (m := pages + 1) (c := pages + 1) (Fx.und rfl) (Fx.sz rfl) (Fx.zr rfl) rfl (Fx.byt rfl) rfl rfl (Nat.le_refl _) (by omega) (by unfold maxLen; omega) rfl (fun bi => ?_)
    rw [show (madeCells (Value.agg #[.int .i64 0, .int .u64 0, .int .u32 0, .slice none 0 0]).cells ((pages + 1) * 4)).toList.take ((pages + 1) * 4) = (List.replicate (pages + 1) zPg).flatten from Wl.made_rows zPg (pages + 1) (pages + 1) (Nat.le_refl _) (Nat.succ_pos _)]
    refine K.l_nil ?_
    refine X.onE hKK ?_
    refine K.d_on rfl (fun KK hKK => ?_)
    refine K.l_makeSlice (m := pages + 1) (c := pages + 1) (Fx.und rfl) (Fx.sz rfl) (Fx.zr rfl) rfl (Fx.byt rfl) rfl rfl (Nat.le_refl _) (by omega) (by unfold maxLen; omega) rfl (fun bp => ?_)
    rw [made1 _ rfl]
    refine K.l_nil ?_
    refine X.onE hKK ?_
    refine X.u_bd ?_
    refine K.d_on rfl (fun KK hKK => ?_)
    refine K.l_box rfl rfl rfl (fun bs => ?_)
    refine K.l_nil ?_
    refine X.onE hKK ?_
    refine X.u_sg ?_
    refine X.u_sg ?_
    refine K.d_nil ?_
    refine K.AT.perm (K.pp [0, 1, 1, 0] rfl) ?_
    exact K.joined (bs, bi, bf, bp) (by repeat (first | exact K.Sub.nil _ | refine K.Sub.cons rfl ?_)) rfl rfl
   refine K.d_on rfl (fun KK hKK => ?_)
   refine K.l_makeSlice (m := pages + 1) (c := pages + 1) (Fx.und rfl) (Fx.sz rfl) (Fx.zr rfl) rfl (Fx.byt rfl) rfl rfl (Nat.le_refl _) (by omega) (by unfold maxLen; omega) rfl (fun bp => ?_)
   rw [made1 _ rfl]
   refine K.l_nil ?_
   refine X.onE hKK ?_
   refine K.d_on rfl (fun KK hKK => ?_)
   refine K.l_makeSlice (m := pages + 1) (c := pages + 1) (Fx.und rfl) (Fx.sz rfl) (Fx.zr rfl) rfl (Fx.byt rfl) rfl rfl (Nat.le_refl _) (by omega) (by unfold maxLen; omega) rfl (fun bi => ?_)
   rw [show (madeCells (Value.agg #[.int .i64 0, .int .u64 0, .int .u32 0, .slice none 0 0]).cells ((pages + 1) * 4)).toList.take ((pages + 1) * 4) = (List.replicate (pages + 1) zPg).flatten from Wl.made_rows zPg (pages + 1) (pages + 1) (Nat.le_refl _) (Nat.succ_pos _)]
   refine K.l_nil ?_
   refine X.onE hKK ?_
   refine X.u_bd ?_
   refine K.d_on rfl (fun KK hKK => ?_)
   refine K.l_box rfl rfl rfl (fun bs => ?_)
   refine K.l_nil ?_
   refine X.onE hKK ?_
   refine X.u_sg ?_
   refine X.u_sg ?_
   refine K.d_nil ?_
   refine K.AT.perm (K.pp [0, 0, 1, 0] rfl) ?_
   exact K.joined (bs, bi, bf, bp) (by repeat (first | exact K.Sub.nil _ | refine K.Sub.cons rfl ?_)) rfl rfl
  refine K.d_on rfl (fun KK hKK => ?_)
  refine K.l_makeSlice (m := pages + 1) (c := pages + 1) (Fx.und rfl) (Fx.sz rfl) (Fx.zr rfl) rfl (Fx.byt rfl) rfl rfl (Nat.le_refl _) (by omega) (by unfold maxLen; omega) rfl (fun bp => ?_)
  rw [made1 _ rfl]
  refine K.l_nil ?_
  refine X.onE hKK ?_
  refine K.d_alt ?_ ?_
  ·refine K.d_on rfl (fun KK hKK => ?_)
   refine K.l_makeSlice (m := pages + 1) (c := pages + 1) (Fx.und rfl) (Fx.sz rfl) (Fx.zr rfl) rfl (Fx.byt rfl) rfl rfl (Nat.le_refl _) (by omega) (by unfold maxLen; omega) rfl (fun bi => ?_)
   rw [show (madeCells (Value.agg #[.int .i64 0, .int .u64 0, .int .u32 0, .slice none 0 0]).cells ((pages + 1) * 4)).toList.take ((pages + 1) * 4) = (List.replicate (pages + 1) zPg).flatten from Wl.made_rows zPg (pages + 1) (pages + 1) (Nat.le_refl _) (Nat.succ_pos _)]
   refine K.l_nil ?_
   refine X.onE hKK ?_
   refine K.d_on rfl (fun KK hKK => ?_)
   refine K.l_makeSlice (m := pages + 1) (c := pages + 1) (Fx.und rfl) (Fx.sz rfl) (Fx.zr rfl) rfl (Fx.byt rfl) rfl rfl (Nat.le_refl _) (by omega) (by unfold maxLen; omega) rfl (fun bf => ?_)
   rw [made1 _ rfl]
   refine K.l_nil ?_
   refine X.onE hKK ?_
   refine X.u_bd ?_
   refine K.d_on rfl (fun KK hKK => ?_)
   refine K.l_box rfl rfl rfl (fun bs => ?_)
   refine K.l_nil ?_
   refine X.onE hKK ?_
   refine X.u_sg ?_
   refine X.u_sg ?_
   refine K.d_nil ?_
   refine K.AT.perm (K.pp [0, 1, 0, 0] rfl) ?_
   exact K.joined (bs, bi, bf, bp) (by repeat (first | exact K.Sub.nil _ | refine K.Sub.cons rfl ?_)) rfl rfl
  refine K.d_on rfl (fun KK hKK => ?_)
  refine K.l_makeSlice (m := pages + 1) (c := pages + 1) (Fx.und rfl) (Fx.sz rfl) (Fx.zr rfl) rfl (Fx.byt rfl) rfl rfl (Nat.le_refl _) (by omega) (by unfold maxLen; omega) rfl (fun bf => ?_)
  rw [made1 _ rfl]
  refine K.l_nil ?_
  refine X.onE hKK ?_
  refine K.d_on rfl (fun KK hKK => ?_)
  refine K.l_makeSlice (m := pages + 1) (c := pages + 1) (Fx.und rfl) (Fx.sz rfl) (Fx.zr rfl) rfl (Fx.byt rfl) rfl rfl (Nat.le_refl _) (by omega) (by unfold maxLen; omega) rfl (fun bi => ?_)
  rw [show (madeCells (Value.agg #[.int .i64 0, .int .u64 0, .int .u32 0, .slice none 0 0]).cells ((pages + 1) * 4)).toList.take ((pages + 1) * 4) = (List.replicate (pages + 1) zPg).flatten from Wl.made_rows zPg (pages + 1) (pages + 1) (Nat.le_refl _) (Nat.succ_pos _)]
  refine K.l_nil ?_
  refine X.onE hKK ?_
  refine X.u_bd ?_
  refine K.d_on rfl (fun KK hKK => ?_)
  refine K.l_box rfl rfl rfl (fun bs => ?_)
  refine K.l_nil ?_
  refine X.onE hKK ?_
  refine X.u_sg ?_
  refine X.u_sg ?_
  refine K.d_nil ?_
  refine K.AT.perm (K.pp [0, 0, 0, 0] rfl) ?_
  exact K.joined (bs, bi, bf, bp) (by repeat (first | exact K.Sub.nil _ | refine K.Sub.cons rfl ?_)) rfl rfl
 refine fun r => ?_
 obtain ⟨bs, bi, bf, bp⟩ := r
 dsimp only
 (repeat' first | refine X.rq ?_ | refine X.rc ?_ ?_ <;> intro hc <;> try omega)
 exact K.dn (vs := [pv bs, .bool true]) rfl (le3.trans le4) (H' := begA bs d l q bi bf bp (pages + 1) W M4 D4 M (newPo frames)) rfl ⟨bs, d, l, q, bi, bf, bp, W, M4, D4, M, rfl, hbeg, hst, rfl⟩
end Go.Proofs.YtijbhgiigddjdaaGreat.Pl
