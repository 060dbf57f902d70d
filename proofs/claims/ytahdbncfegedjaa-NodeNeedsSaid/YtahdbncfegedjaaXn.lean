/-
  Trees of pages: cells that come up; fresh pages taken; pages put. Conditions: each theorem's own.
-/
import Derived.Test.YtahdbncfegedjaaXm

namespace Go.Proofs.Ytahdbncfegedjaa.Nd
open Go Go.K Go.Proofs Go.Proofs.Ytahdbncfegedjaa Go.Proofs.Ytahdbncfegedjaa.Pg
set_option linter.unusedVariables false
set_option linter.unusedSimpArgs false
set_option maxRecDepth 10000

def be4 (n : Nat) : List UInt8 := [UInt8.ofNat (n / 16777216), UInt8.ofNat (n / 65536), UInt8.ofNat (n / 256), UInt8.ofNat n]
def upQ (s : List UInt8) (n : Nat) : PCell := ⟨true, 0, s ++ be4 n⟩
theorem u8_mod (x : Nat) : u8 (UInt8.ofNat x) = .int .u8 ((x % 256 : Nat) : Int) := by simp [u8]
theorem be4_u8 (n : Nat) : (be4 n).map u8 = [.int .u8 ((n / 16777216 % 256 : Nat) : Int), .int .u8 ((n / 65536 % 256 : Nat) : Int), .int .u8 ((n / 256 % 256 : Nat) : Int), .int .u8 ((n % 256 : Nat) : Int)] := by simp [be4, u8]
theorem shr_nat (n k : Nat) : ((n : Int)).fdiv ((2 : Int) ^ k) = ((n / 2 ^ k : Nat) : Int) := by
  rw [show ((2 : Int) ^ k) = ((2 ^ k : Nat) : Int) by simp, Int.fdiv_eq_ediv_of_nonneg _ (Int.natCast_nonneg _)]
  simp
set_option maxHeartbeats 1000000 in
theorem UpC (h : Base) (s : List UInt8) (n : Nat) (hs : s.length ≤ 1000000) (hn : n < 4294967296) : Tr Try.prog 89 [txt s, uV n] h [] (fun v h' H' => H' = [] ∧ ∃ cs, v = .agg cs.toArray ∧ CellC h' cs (upQ s n)) := by
  refine K.enter Try.func89 rfl (Nat.le_of_ble_eq_true rfl) (fun F => ?_)
  have hsz := txt_size s
  (repeat' (first | refine X.rq ?_ | (refine X.rc ?_ ?_ <;> intro hc <;> first | (exfalso; omega) | skip)))
  refine K.l_alloc (Fx.zr rfl) rfl rfl (fun B4 => ?_)
  (repeat' (first | refine X.rq ?_ | (refine X.rc ?_ ?_ <;> intro hc <;> first | (exfalso; omega) | skip)))
  refine K.l_toBytes (Fx.und rfl) (Fx.und rfl) (Fx.und rfl) rfl (by unfold maxLen; omega) rfl (fun B cap => ?_)
  have w24 : IntKind.u8.wrap ((n : Int).fdiv (2 ^ min (Int.toNat 24) IntKind.u32.bits)) = ((n / 16777216 % 256 : Nat) : Int) := by
    rw [show min (Int.toNat 24) IntKind.u32.bits = 24 from rfl, shr_nat, wn8]
  have w16 : IntKind.u8.wrap ((n : Int).fdiv (2 ^ min (Int.toNat 16) IntKind.u32.bits)) = ((n / 65536 % 256 : Nat) : Int) := by
    rw [show min (Int.toNat 16) IntKind.u32.bits = 16 from rfl, shr_nat, wn8]
  have w8 : IntKind.u8.wrap ((n : Int).fdiv (2 ^ min (Int.toNat 8) IntKind.u32.bits)) = ((n / 256 % 256 : Nat) : Int) := by
    rw [show min (Int.toNat 8) IntKind.u32.bits = 8 from rfl, shr_nat, wn8]
  have w0 : IntKind.u8.wrap (n : Int) = ((n % 256 : Nat) : Int) := wn8 n
  have hlen : (s ++ be4 n).length = s.length + 4 := by simp [be4]
  have hmap : (s ++ be4 n).map u8 = s.map u8 ++ [.int .u8 ((n / 16777216 % 256 : Nat) : Int), .int .u8 ((n / 65536 % 256 : Nat) : Int), .int .u8 ((n / 256 % 256 : Nat) : Int), .int .u8 ((n % 256 : Nat) : Int)] := by rw [List.map_append, be4_u8]
  rw [hsz]
  (repeat' (first | refine X.rq ?_ | (refine X.rc ?_ ?_ <;> intro hc <;> first | (exfalso; omega) | skip)))
  rw [w24, w16, w8, w0]
  refine K.l_buildSlice (Fx.und rfl) (Fx.sz rfl) rfl (Fx.zr rfl) rfl rfl rfl rfl rfl (fun BX => ?_)
  refine K.l_append_at 1 rfl (Fx.und rfl) (Fx.und rfl) rfl (Fx.sz rfl) (Fx.zr rfl) rfl (Fx.byt rfl) rfl rfl (K.src_cells (K.cels_own (pre := []) (cs := [.int .u8 ((n / 16777216 % 256 : Nat) : Int), .int .u8 ((n / 65536 % 256 : Nat) : Int), .int .u8 ((n / 256 % 256 : Nat) : Int), .int .u8 ((n % 256 : Nat) : Int)]) (post := []) 0 rfl rfl) rfl (by simp [oneCell])) (by omega) (by omega) rfl (fun a7 cap7 => ?_)
  rw [← hmap, ← hlen]
  simp only [List.set_cons_zero, List.set_cons_succ, List.eraseIdx_cons_zero, List.eraseIdx_cons_succ, List.cons_append, List.nil_append]
  refine K.WL.perm (K.pp [1] rfl) ?_
  simp only [List.set_cons_zero, List.set_cons_succ, List.eraseIdx_cons_zero, List.eraseIdx_cons_succ, List.cons_append, List.nil_append]
  refine K.WL.freezeBuf (fun h2 le2 hbv2 => ?_)
  obtain ⟨ao4, ca4, e4⟩ : ∃ ao4 ca4, bufV a7 (s ++ be4 n).length cap7 = .slice ao4 (s ++ be4 n).length ca4 := ⟨_, _, rfl⟩
  rw [e4] at hbv2 ⊢
  (repeat' (first | refine X.rq ?_ | (refine X.rc ?_ ?_ <;> intro hc <;> first | (exfalso; omega) | skip)))
  refine X.stw ?_
  simp only [List.set_cons_zero, List.set_cons_succ, List.eraseIdx_cons_zero, List.eraseIdx_cons_succ, List.cons_append, List.nil_append]
  (repeat' (first | refine X.rq ?_ | (refine X.rc ?_ ?_ <;> intro hc <;> first | (exfalso; omega) | skip)))
  refine K.doneC (vs := [.agg [.bool true, .int .u32 0, .slice ao4 (s ++ be4 n).length ca4].toArray]) (by first | exact Or.inl rfl | exact Or.inr rfl) (.cell rfl (Fx.agg rfl) (Fx.sz rfl) (by first | exact K.cels_own (pre := []) (post := []) 0 rfl rfl | exact K.cels_own (pre := []) (post := []) 1 rfl rfl) .nil) le2 (D := [_, _]) (H' := []) rfl ⟨rfl, _, rfl, ⟨show (0 : Nat) < 4294967296 by decide, ?_, ao4, ca4, rfl, hbv2⟩⟩
  show (s ++ be4 n).length ≤ _
  omega
set_option maxHeartbeats 1000000 in
theorem RUpC (h : Base) (s : List UInt8) (n : Nat) (hs : s.length ≤ 1000000) (hn : n < 4294967296) : Tr Try.prog 93 [txt s, uV n] h [] (fun v h' H' => H' = [] ∧ ∃ cs, v = .agg cs.toArray ∧ CellC h' cs (upQ s n)) := by
  refine K.enter Try.func93 rfl (Nat.le_of_ble_eq_true rfl) (fun F => ?_)
  have hsz := txt_size s
  (repeat' (first | refine X.rq ?_ | (refine X.rc ?_ ?_ <;> intro hc <;> first | (exfalso; omega) | skip)))
  refine K.l_alloc (Fx.zr rfl) rfl rfl (fun B4 => ?_)
  (repeat' (first | refine X.rq ?_ | (refine X.rc ?_ ?_ <;> intro hc <;> first | (exfalso; omega) | skip)))
  refine K.l_toBytes (Fx.und rfl) (Fx.und rfl) (Fx.und rfl) rfl (by unfold maxLen; omega) rfl (fun B cap => ?_)
  have w24 : IntKind.u8.wrap (IntKind.u32.wrap ((n : Int).tdiv 16777216)) = ((n / 16777216 % 256 : Nat) : Int) := by
    rw [show ((n : Int).tdiv 16777216) = ((n / 16777216 : Nat) : Int) by rw [Int.tdiv_eq_ediv_of_nonneg (Int.natCast_nonneg n)]; omega, wn32, wn8, show n / 16777216 % 4294967296 = n / 16777216 by omega]
  have w16 : IntKind.u8.wrap (IntKind.u32.wrap ((n : Int).tdiv 65536)) = ((n / 65536 % 256 : Nat) : Int) := by
    rw [show ((n : Int).tdiv 65536) = ((n / 65536 : Nat) : Int) by rw [Int.tdiv_eq_ediv_of_nonneg (Int.natCast_nonneg n)]; omega, wn32, wn8, show n / 65536 % 4294967296 = n / 65536 by omega]
  have w8 : IntKind.u8.wrap (IntKind.u32.wrap ((n : Int).tdiv 256)) = ((n / 256 % 256 : Nat) : Int) := by
    rw [show ((n : Int).tdiv 256) = ((n / 256 : Nat) : Int) by rw [Int.tdiv_eq_ediv_of_nonneg (Int.natCast_nonneg n)]; omega, wn32, wn8, show n / 256 % 4294967296 = n / 256 by omega]
  have w0 : IntKind.u8.wrap (n : Int) = ((n % 256 : Nat) : Int) := wn8 n
  have hlen : (s ++ be4 n).length = s.length + 4 := by simp [be4]
  have hmap : (s ++ be4 n).map u8 = s.map u8 ++ [.int .u8 ((n / 16777216 % 256 : Nat) : Int), .int .u8 ((n / 65536 % 256 : Nat) : Int), .int .u8 ((n / 256 % 256 : Nat) : Int), .int .u8 ((n % 256 : Nat) : Int)] := by rw [List.map_append, be4_u8]
  rw [hsz]
  (repeat' (first | refine X.rq ?_ | (refine X.rc ?_ ?_ <;> intro hc <;> first | (exfalso; omega) | skip)))
  rw [w24, w16, w8, w0]
  refine K.l_buildSlice (Fx.und rfl) (Fx.sz rfl) rfl (Fx.zr rfl) rfl rfl rfl rfl rfl (fun BX => ?_)
  refine K.l_append_at 1 rfl (Fx.und rfl) (Fx.und rfl) rfl (Fx.sz rfl) (Fx.zr rfl) rfl (Fx.byt rfl) rfl rfl (K.src_cells (K.cels_own (pre := []) (cs := [.int .u8 ((n / 16777216 % 256 : Nat) : Int), .int .u8 ((n / 65536 % 256 : Nat) : Int), .int .u8 ((n / 256 % 256 : Nat) : Int), .int .u8 ((n % 256 : Nat) : Int)]) (post := []) 0 rfl rfl) rfl (by simp [oneCell])) (by omega) (by omega) rfl (fun a7 cap7 => ?_)
  rw [← hmap, ← hlen]
  simp only [List.set_cons_zero, List.set_cons_succ, List.eraseIdx_cons_zero, List.eraseIdx_cons_succ, List.cons_append, List.nil_append]
  refine K.WL.perm (K.pp [1] rfl) ?_
  simp only [List.set_cons_zero, List.set_cons_succ, List.eraseIdx_cons_zero, List.eraseIdx_cons_succ, List.cons_append, List.nil_append]
  refine K.WL.freezeBuf (fun h2 le2 hbv2 => ?_)
  obtain ⟨ao4, ca4, e4⟩ : ∃ ao4 ca4, bufV a7 (s ++ be4 n).length cap7 = .slice ao4 (s ++ be4 n).length ca4 := ⟨_, _, rfl⟩
  rw [e4] at hbv2 ⊢
  (repeat' (first | refine X.rq ?_ | (refine X.rc ?_ ?_ <;> intro hc <;> first | (exfalso; omega) | skip)))
  refine X.stw ?_
  simp only [List.set_cons_zero, List.set_cons_succ, List.eraseIdx_cons_zero, List.eraseIdx_cons_succ, List.cons_append, List.nil_append]
  (repeat' (first | refine X.rq ?_ | (refine X.rc ?_ ?_ <;> intro hc <;> first | (exfalso; omega) | skip)))
  refine K.doneC (vs := [.agg [.bool true, .int .u32 0, .slice ao4 (s ++ be4 n).length ca4].toArray]) (by first | exact Or.inl rfl | exact Or.inr rfl) (.cell rfl (Fx.agg rfl) (Fx.sz rfl) (by first | exact K.cels_own (pre := []) (post := []) 0 rfl rfl | exact K.cels_own (pre := []) (post := []) 1 rfl rfl) .nil) le2 (D := [_, _]) (H' := []) rfl ⟨rfl, _, rfl, ⟨show (0 : Nat) < 4294967296 by decide, ?_, ao4, ca4, rfl, hbv2⟩⟩
  show (s ++ be4 n).length ≤ _
  omega
end Go.Proofs.Ytahdbncfegedjaa.Nd
