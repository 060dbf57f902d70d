/-
  KA: the steps with their side conditions closed by default. Conditions: none.
-/
import Derived.Test.YtgglpkboijjoiaaK8
import Derived.Test.YtgglpkboijjoiaaF
namespace Go.Proofs.Ytgglpkboijjoiaa.X
open Go Go.K Go.Proofs Go.Proofs.Ytgglpkboijjoiaa
set_option linter.unusedVariables false
set_option linter.unusedSimpArgs false
section
variable {P : Program} {n : Nat} {Q : Exit → Act → World → Prop} {E : Env} {h h' h0 : Base} {H K R : List Asrt} {ops : Array Oper} {rest : List Oper}
variable {op : Op} {t t' ty : TypeId} {ps : String} {af : Array Edge} {d i : Nat} {v : Value} {x y : Operand} {dst : Option Nat} {g : Option (Nat × Bool)} {σ : List (Nat × Kd)}

theorem wr {k : IntKind} {a c : Int} (hw : k.wrap a = c := by exact (by first | exact K.wr_i64 (by omega) (by omega) | exact K.wr_u64 (by omega) (by omega) | exact K.wr_u8 (by omega) (by omega) | exact K.wr_u32 (by omega) (by omega) | exact K.wr_u16 (by omega) (by omega) | rfl)) : k.wrap a = c := hw
theorem ce {b o : Nat} (hc : Cel h K b o v := by exact (by first | assumption | exact K.cel_own 0 rfl rfl | exact K.cel_own 1 rfl rfl | exact K.cel_own 2 rfl rfl | exact K.cel_own 3 rfl rfl | exact K.cel_own 4 rfl rfl | exact K.cel_own 5 rfl rfl | exact K.cel_own 6 rfl rfl | exact K.cel_own 7 rfl rfl)) : Cel h K b o v := hc
theorem cn {b o : Nat} {vs : List Value} (hc : Cels h K b o vs := by first | assumption | exact ⟨X.ce, X.ce, trivial⟩ | exact ⟨X.ce, X.ce, X.ce, trivial⟩ | exact ⟨X.ce, X.ce, X.ce, X.ce, trivial⟩ | exact ⟨X.ce, X.ce, X.ce, X.ce, X.ce, trivial⟩ | exact ⟨X.ce, trivial⟩) : Cels h K b o vs := hc
variable {z : Operand} {j : Nat} {lo hi up : Option Operand} {prt : Array (Nat × Operand)} {ar : Array Operand} {ats : Array TypeId}
theorem mv (hp : Pu P n E h K ⟨dst, .move x, ty, ps, af, g⟩ v := by first | (apply K.p_move; exact rfl)) : Pu P n E h K ⟨dst, .move x, ty, ps, af, g⟩ v := hp
theorem sg (hp : Pu P n E h K ⟨dst, .assign x, ty, ps, af, g⟩ v := by first | (apply K.p_assign; exact rfl)) : Pu P n E h K ⟨dst, .assign x, ty, ps, af, g⟩ v := hp
theorem pk (hp : Pu P n E h K ⟨dst, .pick x y z, ty, ps, af, g⟩ v := by first | (apply K.p_pickT; exact rfl; exact rfl) | (apply K.p_pickF; exact rfl; exact rfl) | (apply K.p_pickB; exact rfl; exact rfl; exact rfl)) : Pu P n E h K ⟨dst, .pick x y z, ty, ps, af, g⟩ v := hp
theorem nc (hp : Pu P n E h K ⟨dst, .nilCheck x, ty, ps, af, g⟩ v := by first | (apply K.p_nilP; exact rfl)) : Pu P n E h K ⟨dst, .nilCheck x, ty, ps, af, g⟩ v := hp
theorem cv (hp : Pu P n E h K ⟨dst, .convert t t' x, ty, ps, af, g⟩ v := by first | (apply K.p_conv; exact (Fx.und rfl); exact (Fx.und rfl); exact rfl; exact X.wr) | (apply K.p_toText0; exact (Fx.und rfl); exact (Fx.und rfl); exact (Fx.und rfl); exact rfl) | (apply K.p_toTextB 0; exact rfl; exact (Fx.und rfl); exact (Fx.und rfl); exact (Fx.und rfl); exact rfl) | (apply K.p_toTextB 1; exact rfl; exact (Fx.und rfl); exact (Fx.und rfl); exact (Fx.und rfl); exact rfl) | (apply K.p_toTextB 2; exact rfl; exact (Fx.und rfl); exact (Fx.und rfl); exact (Fx.und rfl); exact rfl) | (apply K.p_toTextB 3; exact rfl; exact (Fx.und rfl); exact (Fx.und rfl); exact (Fx.und rfl); exact rfl) | (apply K.p_toText; exact (Fx.und rfl); exact (Fx.und rfl); exact (Fx.und rfl); exact rfl; exact (by assumption)) | (apply K.p_convS; exact (Fx.und rfl); exact (Fx.und rfl); exact rfl)) : Pu P n E h K ⟨dst, .convert t t' x, ty, ps, af, g⟩ v := hp
theorem ex (hp : Pu P n E h K ⟨dst, .extract x j, ty, ps, af, g⟩ v := by first | (apply K.p_extract; exact rfl; exact rfl)) : Pu P n E h K ⟨dst, .extract x j, ty, ps, af, g⟩ v := hp
theorem fa (hp : Pu P n E h K ⟨dst, .fieldAddr t x j, ty, ps, af, g⟩ v := by first | (apply K.p_fieldAddr; exact (Fx.fo rfl); exact rfl; exact rfl; exact (by first | exact Nat.zero_add _ | exact Nat.add_zero _ | rfl))) : Pu P n E h K ⟨dst, .fieldAddr t x j, ty, ps, af, g⟩ v := hp
theorem fd (hp : Pu P n E h K ⟨dst, .field t x j, ty, ps, af, g⟩ v := by first | (apply K.p_field1; exact (Fx.fo rfl); exact (Fx.agg rfl); exact rfl; exact rfl) | (apply K.p_fieldN; exact (Fx.fo rfl); exact (Fx.agg rfl); exact rfl; exact rfl)) : Pu P n E h K ⟨dst, .field t x j, ty, ps, af, g⟩ v := hp
theorem ld (hp : Pu P n E h K ⟨dst, .load t x, ty, ps, af, g⟩ v := by first | (apply K.p_load; exact (Fx.agg rfl); exact rfl; exact X.ce) | (apply K.p_loadM; exact (Fx.agg rfl); exact rfl; exact (by assumption); exact (Fx.sz rfl); exact rfl) | (apply K.p_loadN; exact (Fx.agg rfl); exact (Fx.sz rfl); exact rfl; exact X.cn)) : Pu P n E h K ⟨dst, .load t x, ty, ps, af, g⟩ v := hp
theorem ia (hp : Pu P n E h K ⟨dst, .indexAddr t x y, ty, ps, af, g⟩ v := by first | (apply K.p_indexAddr; exact (Fx.und rfl); exact (Fx.sz rfl); exact rfl; exact rfl; exact (by omega); exact (by omega); exact (by first | exact K.idx01 _ | rfl))) : Pu P n E h K ⟨dst, .indexAddr t x y, ty, ps, af, g⟩ v := hp
theorem ix (hp : Pu P n E h K ⟨dst, .index t x y, ty, ps, af, g⟩ v := by first | (apply K.p_indexT; exact (Fx.und rfl); exact rfl; exact rfl; exact (by omega); exact (by assumption))) : Pu P n E h K ⟨dst, .index t x y, ty, ps, af, g⟩ v := hp
theorem sl (hp : Pu P n E h K ⟨dst, .slice t x lo hi up, ty, ps, af, g⟩ v := by first | (apply K.p_slice0; exact (Fx.und rfl); exact (Fx.sz rfl); exact rfl; exact (by first | trivial | rfl); exact (by first | trivial | rfl))) : Pu P n E h K ⟨dst, .slice t x lo hi up, ty, ps, af, g⟩ v := hp
theorem bd (hp : Pu P n E h K ⟨dst, .build t prt, ty, ps, af, g⟩ v := by first | (apply K.p_build; exact (Fx.pl rfl); exact (Fx.zr rfl); exact rfl; exact rfl)) : Pu P n E h K ⟨dst, .build t prt, ty, ps, af, g⟩ v := hp
theorem len (hp : Pu P n E h K ⟨dst, .call ⟨.builtin .len, ar, ats⟩, ty, ps, af, g⟩ v := by first | (apply K.p_lenS; exact (Fx.und rfl); exact rfl) | (apply K.p_lenT; exact (Fx.und rfl); exact rfl)) : Pu P n E h K ⟨dst, .call ⟨.builtin .len, ar, ats⟩, ty, ps, af, g⟩ v := hp
theorem mn (hp : Pu P n E h K ⟨dst, .call ⟨.builtin .min, ar, ats⟩, ty, ps, af, g⟩ v := by first | (apply K.p_min; exact rfl; exact rfl; exact rfl)) : Pu P n E h K ⟨dst, .call ⟨.builtin .min, ar, ats⟩, ty, ps, af, g⟩ v := hp
theorem mx (hp : Pu P n E h K ⟨dst, .call ⟨.builtin .max, ar, ats⟩, ty, ps, af, g⟩ v := by first | (apply K.p_max; exact rfl; exact rfl; exact rfl)) : Pu P n E h K ⟨dst, .call ⟨.builtin .max, ar, ats⟩, ty, ps, af, g⟩ v := hp
theorem nt (hp : Pu P n E h K ⟨dst, .unOp .not t x, ty, ps, af, g⟩ v := by first | (apply K.p_notT; exact rfl) | (apply K.p_notF; exact rfl) | (apply K.p_notD; exact rfl) | (apply K.p_not; exact rfl)) : Pu P n E h K ⟨dst, .unOp .not t x, ty, ps, af, g⟩ v := hp
theorem ng (hp : Pu P n E h K ⟨dst, .unOp .neg t x, ty, ps, af, g⟩ v := by first | (apply K.p_neg; exact rfl; exact X.wr)) : Pu P n E h K ⟨dst, .unOp .neg t x, ty, ps, af, g⟩ v := hp
theorem badd (hp : Pu P n E h K ⟨dst, .binOp .add t x y t', ty, ps, af, g⟩ v := by first | (apply K.p_add; exact rfl; exact rfl; exact X.wr)) : Pu P n E h K ⟨dst, .binOp .add t x y t', ty, ps, af, g⟩ v := hp
theorem bsub (hp : Pu P n E h K ⟨dst, .binOp .sub t x y t', ty, ps, af, g⟩ v := by first | (apply K.p_sub; exact rfl; exact rfl; exact X.wr)) : Pu P n E h K ⟨dst, .binOp .sub t x y t', ty, ps, af, g⟩ v := hp
theorem bmul (hp : Pu P n E h K ⟨dst, .binOp .mul t x y t', ty, ps, af, g⟩ v := by first | (apply K.p_mul; exact rfl; exact rfl; exact X.wr)) : Pu P n E h K ⟨dst, .binOp .mul t x y t', ty, ps, af, g⟩ v := hp
theorem beql (hp : Pu P n E h K ⟨dst, .binOp .eql t x y t', ty, ps, af, g⟩ v := by first | (apply K.p_eql; exact rfl; exact rfl) | (apply K.p_seql; exact rfl; exact rfl) | (apply K.p_eqP; exact (Fx.und rfl); exact rfl; exact rfl; exact rfl; exact (by first | exact Option.isNone_none | exact Option.isNone_some | rfl)) | (apply K.p_eqS; exact (Fx.und rfl); exact rfl; exact rfl; exact rfl; exact (by first | exact Option.isNone_none | exact Option.isNone_some | rfl)) | (apply K.p_beql; exact (Fx.und rfl); exact rfl; exact rfl)) : Pu P n E h K ⟨dst, .binOp .eql t x y t', ty, ps, af, g⟩ v := hp
theorem bneq (hp : Pu P n E h K ⟨dst, .binOp .neq t x y t', ty, ps, af, g⟩ v := by first | (apply K.p_neq; exact rfl; exact rfl) | (apply K.p_sneq; exact rfl; exact rfl) | (apply K.p_neP; exact (Fx.und rfl); exact rfl; exact rfl; exact rfl; exact (by first | exact Option.isSome_none | exact Option.isSome_some | rfl)) | (apply K.p_neS; exact (Fx.und rfl); exact rfl; exact rfl; exact rfl; exact (by first | exact Option.isSome_none | exact Option.isSome_some | rfl)) | (apply K.p_bneq; exact (Fx.und rfl); exact rfl; exact rfl)) : Pu P n E h K ⟨dst, .binOp .neq t x y t', ty, ps, af, g⟩ v := hp
theorem blss (hp : Pu P n E h K ⟨dst, .binOp .lss t x y t', ty, ps, af, g⟩ v := by first | (apply K.p_lss; exact rfl; exact rfl) | (apply K.p_slss; exact rfl; exact rfl)) : Pu P n E h K ⟨dst, .binOp .lss t x y t', ty, ps, af, g⟩ v := hp
theorem bleq (hp : Pu P n E h K ⟨dst, .binOp .leq t x y t', ty, ps, af, g⟩ v := by first | (apply K.p_leq; exact rfl; exact rfl) | (apply K.p_sleq; exact rfl; exact rfl)) : Pu P n E h K ⟨dst, .binOp .leq t x y t', ty, ps, af, g⟩ v := hp
theorem bgtr (hp : Pu P n E h K ⟨dst, .binOp .gtr t x y t', ty, ps, af, g⟩ v := by first | (apply K.p_gtr; exact rfl; exact rfl) | (apply K.p_sgtr; exact rfl; exact rfl)) : Pu P n E h K ⟨dst, .binOp .gtr t x y t', ty, ps, af, g⟩ v := hp
theorem bgeq (hp : Pu P n E h K ⟨dst, .binOp .geq t x y t', ty, ps, af, g⟩ v := by first | (apply K.p_geq; exact rfl; exact rfl) | (apply K.p_sgeq; exact rfl; exact rfl)) : Pu P n E h K ⟨dst, .binOp .geq t x y t', ty, ps, af, g⟩ v := hp
theorem band (hp : Pu P n E h K ⟨dst, .binOp .and t x y t', ty, ps, af, g⟩ v := by first | (apply K.p_and; exact rfl; exact rfl; exact rfl)) : Pu P n E h K ⟨dst, .binOp .and t x y t', ty, ps, af, g⟩ v := hp
theorem bor (hp : Pu P n E h K ⟨dst, .binOp .or t x y t', ty, ps, af, g⟩ v := by first | (apply K.p_or; exact rfl; exact rfl; exact rfl)) : Pu P n E h K ⟨dst, .binOp .or t x y t', ty, ps, af, g⟩ v := hp
theorem bxor (hp : Pu P n E h K ⟨dst, .binOp .xor t x y t', ty, ps, af, g⟩ v := by first | (apply K.p_xor; exact rfl; exact rfl; exact rfl)) : Pu P n E h K ⟨dst, .binOp .xor t x y t', ty, ps, af, g⟩ v := hp
theorem bshr (hp : Pu P n E h K ⟨dst, .binOp .shr t x y t', ty, ps, af, g⟩ v := by first | (apply K.p_shr; exact rfl; exact rfl; exact (by omega); exact rfl)) : Pu P n E h K ⟨dst, .binOp .shr t x y t', ty, ps, af, g⟩ v := hp
theorem bshl (hp : Pu P n E h K ⟨dst, .binOp .shl t x y t', ty, ps, af, g⟩ v := by first | (apply K.p_shl; exact rfl; exact rfl; exact (by omega); exact X.wr)) : Pu P n E h K ⟨dst, .binOp .shl t x y t', ty, ps, af, g⟩ v := hp
theorem bquo (hp : Pu P n E h K ⟨dst, .binOp .quo t x y t', ty, ps, af, g⟩ v := by first | (apply K.p_quo; exact rfl; exact rfl; exact (by omega); exact (by first | exact K.quo_i64 (by omega) (by omega) (by omega) | exact K.quo_u64 (by omega) (by omega) (by omega) | rfl))) : Pu P n E h K ⟨dst, .binOp .quo t x y t', ty, ps, af, g⟩ v := hp
theorem brem (hp : Pu P n E h K ⟨dst, .binOp .rem t x y t', ty, ps, af, g⟩ v := by first | (apply K.p_rem; exact rfl; exact rfl; exact (by omega); exact (by first | exact K.rem_nn (by omega) | rfl))) : Pu P n E h K ⟨dst, .binOp .rem t x y t', ty, ps, af, g⟩ v := hp
end
end Go.Proofs.Ytgglpkboijjoiaa.X
namespace Go.Proofs.Ytgglpkboijjoiaa.Y
open Go Go.K Go.Proofs Go.Proofs.Ytgglpkboijjoiaa
section
variable {P : Program} {n : Nat} {E : Env} {h : Base} {K : List Asrt} {op : Op} {t t' ty : TypeId} {ps : String} {af : Array Edge} {v : Value} {x y z : Operand} {dst : Option Nat} {g : Option (Nat × Bool)} {j : Nat} {lo hi up : Option Operand} {prt : Array (Nat × Operand)} {ar : Array Operand} {ats : Array TypeId}
theorem mv (hp : Pu P n E h K ⟨dst, .move x, ty, ps, af, g⟩ v) : Pu P n E h K ⟨dst, .move x, ty, ps, af, g⟩ v := hp
theorem sg (hp : Pu P n E h K ⟨dst, .assign x, ty, ps, af, g⟩ v) : Pu P n E h K ⟨dst, .assign x, ty, ps, af, g⟩ v := hp
theorem pk (hp : Pu P n E h K ⟨dst, .pick x y z, ty, ps, af, g⟩ v) : Pu P n E h K ⟨dst, .pick x y z, ty, ps, af, g⟩ v := hp
theorem nc (hp : Pu P n E h K ⟨dst, .nilCheck x, ty, ps, af, g⟩ v) : Pu P n E h K ⟨dst, .nilCheck x, ty, ps, af, g⟩ v := hp
theorem cv (hp : Pu P n E h K ⟨dst, .convert t t' x, ty, ps, af, g⟩ v) : Pu P n E h K ⟨dst, .convert t t' x, ty, ps, af, g⟩ v := hp
theorem ex (hp : Pu P n E h K ⟨dst, .extract x j, ty, ps, af, g⟩ v) : Pu P n E h K ⟨dst, .extract x j, ty, ps, af, g⟩ v := hp
theorem fa (hp : Pu P n E h K ⟨dst, .fieldAddr t x j, ty, ps, af, g⟩ v) : Pu P n E h K ⟨dst, .fieldAddr t x j, ty, ps, af, g⟩ v := hp
theorem fd (hp : Pu P n E h K ⟨dst, .field t x j, ty, ps, af, g⟩ v) : Pu P n E h K ⟨dst, .field t x j, ty, ps, af, g⟩ v := hp
theorem ld (hp : Pu P n E h K ⟨dst, .load t x, ty, ps, af, g⟩ v) : Pu P n E h K ⟨dst, .load t x, ty, ps, af, g⟩ v := hp
theorem ia (hp : Pu P n E h K ⟨dst, .indexAddr t x y, ty, ps, af, g⟩ v) : Pu P n E h K ⟨dst, .indexAddr t x y, ty, ps, af, g⟩ v := hp
theorem ix (hp : Pu P n E h K ⟨dst, .index t x y, ty, ps, af, g⟩ v) : Pu P n E h K ⟨dst, .index t x y, ty, ps, af, g⟩ v := hp
theorem sl (hp : Pu P n E h K ⟨dst, .slice t x lo hi up, ty, ps, af, g⟩ v) : Pu P n E h K ⟨dst, .slice t x lo hi up, ty, ps, af, g⟩ v := hp
theorem bd (hp : Pu P n E h K ⟨dst, .build t prt, ty, ps, af, g⟩ v) : Pu P n E h K ⟨dst, .build t prt, ty, ps, af, g⟩ v := hp
theorem len (hp : Pu P n E h K ⟨dst, .call ⟨.builtin .len, ar, ats⟩, ty, ps, af, g⟩ v) : Pu P n E h K ⟨dst, .call ⟨.builtin .len, ar, ats⟩, ty, ps, af, g⟩ v := hp
theorem mn (hp : Pu P n E h K ⟨dst, .call ⟨.builtin .min, ar, ats⟩, ty, ps, af, g⟩ v) : Pu P n E h K ⟨dst, .call ⟨.builtin .min, ar, ats⟩, ty, ps, af, g⟩ v := hp
theorem mx (hp : Pu P n E h K ⟨dst, .call ⟨.builtin .max, ar, ats⟩, ty, ps, af, g⟩ v) : Pu P n E h K ⟨dst, .call ⟨.builtin .max, ar, ats⟩, ty, ps, af, g⟩ v := hp
theorem nt (hp : Pu P n E h K ⟨dst, .unOp .not t x, ty, ps, af, g⟩ v) : Pu P n E h K ⟨dst, .unOp .not t x, ty, ps, af, g⟩ v := hp
theorem ng (hp : Pu P n E h K ⟨dst, .unOp .neg t x, ty, ps, af, g⟩ v) : Pu P n E h K ⟨dst, .unOp .neg t x, ty, ps, af, g⟩ v := hp
theorem badd (hp : Pu P n E h K ⟨dst, .binOp .add t x y t', ty, ps, af, g⟩ v) : Pu P n E h K ⟨dst, .binOp .add t x y t', ty, ps, af, g⟩ v := hp
theorem bsub (hp : Pu P n E h K ⟨dst, .binOp .sub t x y t', ty, ps, af, g⟩ v) : Pu P n E h K ⟨dst, .binOp .sub t x y t', ty, ps, af, g⟩ v := hp
theorem bmul (hp : Pu P n E h K ⟨dst, .binOp .mul t x y t', ty, ps, af, g⟩ v) : Pu P n E h K ⟨dst, .binOp .mul t x y t', ty, ps, af, g⟩ v := hp
theorem beql (hp : Pu P n E h K ⟨dst, .binOp .eql t x y t', ty, ps, af, g⟩ v) : Pu P n E h K ⟨dst, .binOp .eql t x y t', ty, ps, af, g⟩ v := hp
theorem bneq (hp : Pu P n E h K ⟨dst, .binOp .neq t x y t', ty, ps, af, g⟩ v) : Pu P n E h K ⟨dst, .binOp .neq t x y t', ty, ps, af, g⟩ v := hp
theorem blss (hp : Pu P n E h K ⟨dst, .binOp .lss t x y t', ty, ps, af, g⟩ v) : Pu P n E h K ⟨dst, .binOp .lss t x y t', ty, ps, af, g⟩ v := hp
theorem bleq (hp : Pu P n E h K ⟨dst, .binOp .leq t x y t', ty, ps, af, g⟩ v) : Pu P n E h K ⟨dst, .binOp .leq t x y t', ty, ps, af, g⟩ v := hp
theorem bgtr (hp : Pu P n E h K ⟨dst, .binOp .gtr t x y t', ty, ps, af, g⟩ v) : Pu P n E h K ⟨dst, .binOp .gtr t x y t', ty, ps, af, g⟩ v := hp
theorem bgeq (hp : Pu P n E h K ⟨dst, .binOp .geq t x y t', ty, ps, af, g⟩ v) : Pu P n E h K ⟨dst, .binOp .geq t x y t', ty, ps, af, g⟩ v := hp
theorem band (hp : Pu P n E h K ⟨dst, .binOp .and t x y t', ty, ps, af, g⟩ v) : Pu P n E h K ⟨dst, .binOp .and t x y t', ty, ps, af, g⟩ v := hp
theorem bor (hp : Pu P n E h K ⟨dst, .binOp .or t x y t', ty, ps, af, g⟩ v) : Pu P n E h K ⟨dst, .binOp .or t x y t', ty, ps, af, g⟩ v := hp
theorem bxor (hp : Pu P n E h K ⟨dst, .binOp .xor t x y t', ty, ps, af, g⟩ v) : Pu P n E h K ⟨dst, .binOp .xor t x y t', ty, ps, af, g⟩ v := hp
theorem bshr (hp : Pu P n E h K ⟨dst, .binOp .shr t x y t', ty, ps, af, g⟩ v) : Pu P n E h K ⟨dst, .binOp .shr t x y t', ty, ps, af, g⟩ v := hp
theorem bshl (hp : Pu P n E h K ⟨dst, .binOp .shl t x y t', ty, ps, af, g⟩ v) : Pu P n E h K ⟨dst, .binOp .shl t x y t', ty, ps, af, g⟩ v := hp
theorem bquo (hp : Pu P n E h K ⟨dst, .binOp .quo t x y t', ty, ps, af, g⟩ v) : Pu P n E h K ⟨dst, .binOp .quo t x y t', ty, ps, af, g⟩ v := hp
theorem brem (hp : Pu P n E h K ⟨dst, .binOp .rem t x y t', ty, ps, af, g⟩ v) : Pu P n E h K ⟨dst, .binOp .rem t x y t', ty, ps, af, g⟩ v := hp
end
end Go.Proofs.Ytgglpkboijjoiaa.Y
namespace Go.Proofs.Ytgglpkboijjoiaa.X
open Go Go.K Go.Proofs Go.Proofs.Ytgglpkboijjoiaa
section
variable {P : Program} {n : Nat} {Q : Exit → Act → World → Prop} {E : Env} {h h' h0 : Base} {H K R : List Asrt} {ops : Array Oper} {rest : List Oper}
variable {op : Op} {t t' ty : TypeId} {ps : String} {af : Array Edge} {d i : Nat} {v : Value} {x y : Operand} {dst : Option Nat} {g : Option (Nat × Bool)} {σ : List (Nat × Kd)}
/-- Steps of control. -/
theorem w {G : Prop} {c : Code} (hk : G) (hs : G → WC P n c Q E h H := by intro hk; first | (apply K.c_seq; exact hk) | (apply K.c_region; exact hk) | (refine K.c_condT rfl ?_; exact hk) | (refine K.c_condF rfl ?_; exact hk) | (apply K.c_skip; exact hk) | (apply K.c_block; exact hk) | (apply K.c_ret; exact hk) | (apply K.c_exit; exact hk)) : WC P n c Q E h H := hs hk
theorem l {G : Prop} {ls : List Oper} (hk : G) (hs : G → WL P n ops Q ls E h H := by intro hk; first | (apply K.l_nil; exact hk) | (refine K.s_take rfl rfl ?_; exact hk) | (refine K.s_skip rfl rfl rfl ?_; exact hk) | (refine K.s_skipU rfl rfl rfl rfl ?_; exact hk) | (refine K.s_skip0 rfl rfl ?_; exact hk)) : WL P n ops Q ls E h H := hs hk
theorem a {G : Prop} {e : Exit} (hk : G) (hs : G → AT P n Q e E h H := by intro hk; first | (apply K.a_then; exact hk) | (apply K.a_then_ret; exact hk) | (apply K.a_then_exit; exact hk) | (apply K.a_block; exact hk) | (apply K.a_block_ret; exact hk) | (apply K.a_block_exit; exact hk) | (refine K.a_block_exit_ne rfl ?_; exact hk)) : AT P n Q e E h H := hs hk
/-- A store. -/
theorem sto {G G' : Prop} (hk : G') (hs : G' → G := by intro hk; first | exact K.l_store1_at 0 rfl (Fx.sz rfl) rfl rfl rfl rfl rfl rfl rfl hk | exact K.l_store1_at 1 rfl (Fx.sz rfl) rfl rfl rfl rfl rfl rfl rfl hk | exact K.l_store1_at 2 rfl (Fx.sz rfl) rfl rfl rfl rfl rfl rfl rfl hk | exact K.l_store1_at 3 rfl (Fx.sz rfl) rfl rfl rfl rfl rfl rfl rfl hk | exact K.l_store1_at 4 rfl (Fx.sz rfl) rfl rfl rfl rfl rfl rfl rfl hk | exact K.l_store1_at 5 rfl (Fx.sz rfl) rfl rfl rfl rfl rfl rfl rfl hk | exact K.l_store1_at 6 rfl (Fx.sz rfl) rfl rfl rfl rfl rfl rfl rfl hk | exact K.l_store1_at 7 rfl (Fx.sz rfl) rfl rfl rfl rfl rfl rfl rfl hk | exact K.l_store1_at 8 rfl (Fx.sz rfl) rfl rfl rfl rfl rfl rfl rfl hk | exact K.l_store1_at 9 rfl (Fx.sz rfl) rfl rfl rfl rfl rfl rfl rfl hk | exact K.l_store1_at 10 rfl (Fx.sz rfl) rfl rfl rfl rfl rfl rfl rfl hk | exact K.l_store1_at 11 rfl (Fx.sz rfl) rfl rfl rfl rfl rfl rfl rfl hk) : G := hs hk
theorem bs {e : TypeId} {m s : Nat} {parts : List (Nat × Operand)} {vs : List (Nat × Value)} {cs : List Value} (hk : ∀ B, WL P n ops Q rest ((d, .slice (some ⟨B, 0, none⟩) m m) :: E) h (blk B e cs :: H)) (hu : P.underlying t = some (.slice e) := by exact Fx.und rfl) (hs : szOf P e = some s := by exact Fx.sz rfl) (hb : Nat.ble (m * s) 16777216 = true := by exact rfl)
    (hz : zrOf P e = some v := by exact Fx.zr rfl) (hv : partsOf E parts = some vs := by exact rfl) (hm : Nat.beq vs.length m = true := by exact rfl) (hf0 : seqOk s vs 0 = true := by exact rfl) (hcs : cellsL vs = cs := by exact (by first | exact K.cellsL_1 rfl | exact K.cellsL_2 rfl rfl | exact K.cellsL_3 rfl rfl rfl | exact K.cellsL_4 rfl rfl rfl rfl | exact K.cellsL_5 rfl rfl rfl rfl rfl | exact K.cellsL_6 rfl rfl rfl rfl rfl rfl | exact K.cellsL_7 rfl rfl rfl rfl rfl rfl rfl | exact K.cellsL_8 rfl rfl rfl rfl rfl rfl rfl rfl | rfl)) (hd : Nat.blt d n = true := by exact rfl) :
    WL P n ops Q (⟨some d, .buildSlice t m parts.toArray, ty, ps, af, none⟩ :: rest) E h H := l_buildSlice hu hs hb hz hv hm hf0 hcs hd hk
/-- Regions that draw. -/
theorem draw {l : List Oper} {id : Nat} (K : List Asrt) (cls : List Nat) (σ : List (Nat × Kd)) (hx : WS P n l.toArray Q h K σ E h H) (hm : P.follows .mixedOrders = true := by exact Fx.mixed) (hQ : NoPanic Q := by exact (by repeat (first | exact K.post_noPanic _ _ | assumption | refine K.NoPanic.then ?_ | refine K.NoPanic.inBlock ?_))) (hok : schedOk l.toArray cls σ = true := by kernel_rfl) (hs : Suf K H := by exact (by first | exact K.suf_refl _ | exact K.suf_nil | (repeat (first | exact K.suf_refl _ | exact K.suf_nil | refine K.suf_ins 0 rfl ?_ | refine K.suf_ins 1 rfl ?_ | refine K.suf_ins 2 rfl ?_ | refine K.suf_ins 3 rfl ?_ | refine K.suf_ins 4 rfl ?_ | refine K.suf_ins 5 rfl ?_ | refine K.suf_ins 6 rfl ?_ | refine K.suf_ins 7 rfl ?_ | refine K.suf_both ?_ | refine K.suf_cons ?_)))) :
    WC P n (.region id l.toArray true) Q E h H := c_draw K cls σ hm hQ hok hs hx
theorem onE {KK : Act → World → Prop} (hK : OnK P n ops Q h0 K σ KK) (hx : WS P n ops Q h0 K σ E h H) (hle : h0.le h := by exact (by first | exact K.Base.le.refl _ | assumption)) (hs : Suf K H := by exact (by first | exact K.suf_refl _ | exact K.suf_nil | (repeat (first | exact K.suf_refl _ | exact K.suf_nil | refine K.suf_ins 0 rfl ?_ | refine K.suf_ins 1 rfl ?_ | refine K.suf_ins 2 rfl ?_ | refine K.suf_ins 3 rfl ?_ | refine K.suf_ins 4 rfl ?_ | refine K.suf_ins 5 rfl ?_ | refine K.suf_ins 6 rfl ?_ | refine K.suf_ins 7 rfl ?_ | refine K.suf_both ?_ | refine K.suf_cons ?_)))) : AT P n (Exit.then KK Q) .normal E h H := d_onE hK hle hs hx
theorem onS {KK : Act → World → Prop} (hK : OnK P n ops Q h0 K σ KK) (K1 : List Asrt) (hx : WS P n ops Q h K1 σ E h H) (hle : h0.le h := by exact (by first | exact K.Base.le.refl _ | assumption)) (h1 : Suf K K1 := by exact (by first | exact K.suf_refl _ | exact K.suf_nil | (repeat (first | exact K.suf_refl _ | exact K.suf_nil | refine K.suf_ins 0 rfl ?_ | refine K.suf_ins 1 rfl ?_ | refine K.suf_ins 2 rfl ?_ | refine K.suf_ins 3 rfl ?_ | refine K.suf_ins 4 rfl ?_ | refine K.suf_ins 5 rfl ?_ | refine K.suf_ins 6 rfl ?_ | refine K.suf_ins 7 rfl ?_ | refine K.suf_both ?_ | refine K.suf_cons ?_)))) (hs : Suf K1 H := by exact (by first | exact K.suf_refl _ | exact K.suf_nil | (repeat (first | exact K.suf_refl _ | exact K.suf_nil | refine K.suf_ins 0 rfl ?_ | refine K.suf_ins 1 rfl ?_ | refine K.suf_ins 2 rfl ?_ | refine K.suf_ins 3 rfl ?_ | refine K.suf_ins 4 rfl ?_ | refine K.suf_ins 5 rfl ?_ | refine K.suf_ins 6 rfl ?_ | refine K.suf_ins 7 rfl ?_ | refine K.suf_both ?_ | refine K.suf_cons ?_)))) : AT P n (Exit.then KK Q) .normal E h H := d_onS hK K1 hle h1 hs hx
end
end Go.Proofs.Ytgglpkboijjoiaa.X
