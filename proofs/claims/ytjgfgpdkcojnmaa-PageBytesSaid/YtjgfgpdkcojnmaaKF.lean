/-
  KF: comparisons of byte slices; the order of texts. Generic over the program. Conditions: none.
-/
import Derived.Test.YtjgfgpdkcojnmaaKE
import Derived.Laws.Entries
namespace Go.K
set_option linter.unusedVariables false
set_option linter.unusedSimpArgs false
theorem run_loadB {P : Program} {w : World} : ∀ (l : List UInt8) (b o : Nat) (acc : ByteArray), (∀ j x, l[j]? = some x → w.cell? ⟨b, o + j, none⟩ = some (u8 x)) → (Extern.Bytes.loadBytes ⟨b, o, none⟩ l.length acc).run P w = .ok ⟨acc.data ++ l.toArray⟩ w
  | [], b, o, acc, _ => by simp [Extern.Bytes.loadBytes]
  | x :: l, b, o, acc, h => by
    have h0 : w.cell? ⟨b, o, none⟩ = some (.int .u8 x.toNat) := h 0 x rfl
    have ih := run_loadB (P := P) l b (o + 1) (acc.push x) (fun j y hy => by
      have := h (j + 1) y (by simpa using hy)
      rw [show o + 1 + j = o + (j + 1) by omega]; exact this)
    have hx : ((x.toNat : Int).toNat).toUInt8 = x := by simp
    simp only [List.length_cons, Extern.Bytes.loadBytes, Sem.run_bind, run_load, h0, Result.andThen, hx, add_none]
    rw [ih]
    congr 1
    apply ByteArray.ext
    simp [ByteArray.push]
theorem run_bytesOf {P : Program} {h : Base} {v : Value} {l : List UInt8} {w : World} (hb : BV h v l) (hs : Sat h [] w) : (Extern.Bytes.bytesOf v).run P w = .ok ⟨l.toArray⟩ w := by
  rcases hb with ⟨ao, c, rfl, rfl⟩ | ⟨b, o, c, rfl, _, hcs⟩
  · cases ao with
    | none => simp [Extern.Bytes.bytesOf]; rfl
    | some a => simp [Extern.Bytes.bytesOf, loadBytes]; rfl
  · have := run_loadB (P := P) (w := w) l b o ByteArray.empty (fun j x hj => (hcs.get j (u8 x) (by rw [List.getElem?_map, hj]; rfl)).run w hs)
    simp only [Extern.Bytes.bytesOf, List.length_map] at this ⊢
    rw [this]
    simp
theorem p_extP {P : Program} {n : Nat} {E : Env} {h : Base} {K : List Asrt} {ty : TypeId} {ps : String} {af : Array Edge} {dst : Option Nat} {g : Option (Nat × Bool)} {v : Value} {f : FuncId} {args : List Operand} {vals : List Value} {ats : Array TypeId} (hr : ∀ w, Sat h [] w → (callFunc f vals.toArray).run P w = .ok (.value v) w) (ha : evArgs E args = some vals) :
    Pu P n E h K ⟨dst, .call ⟨.value (.func f), args.toArray, ats⟩, ty, ps, af, g⟩ v :=
  ⟨fun a w fa hs => by
    have h1 := evArgs_eval fa args vals ha
    have h2 : args.toArray.map a.eval = vals.toArray := by rw [List.map_toArray, h1]
    simp only [execOp, resolve, Act.eval, Deferred.ofValue, h2, Sem.run_bind, Sem.run_pure, Result.andThen_ok, invoke]
    simp only [Array.empty_append, Array.append_empty]
    exact hr w (hs.sub fun _ hA => by cases hA)⟩
theorem ext_cmpB {P : Program} {h : Base} {f : FuncId} {fn : Func} (hf : P.funcs[f]? = some fn) (hname : (fn.name == "runtime.NumGoroutine") = false) (hb : fn.body.isNone = true) (hn : Extern.findNext fn = none) (he : Extern.find fn = some Extern.BytealgCompare.compare) {v u : Value} {a b : List UInt8} (hv : BV h v a) (hu : BV h u b) (w : World) (hs : Sat h [] w) :
    (callFunc f [v, u].toArray).run P w = .ok (.value (.int .i64 (Lib.compareBytes a b))) w := by
  rw [run_callFunc_extern hf hname hb hn he]
  show (Sem.run P (do pure (goInt (Extern.BytealgCompare.cmp (← Extern.Bytes.bytesOf v) (← Extern.Bytes.bytesOf u)))) w).andThen _ = _
  simp only [Sem.run_bind, run_bytesOf hv hs, run_bytesOf hu hs, Result.andThen_ok, Sem.run_pure, Lib.cmp_eq]
  rfl
theorem less_iff : ∀ (a b : List UInt8), Op.bytesLess a b = decide (Lib.compareBytes a b < 0)
  | [], [] => rfl
  | [], _ :: _ => rfl
  | _ :: _, [] => rfl
  | x :: a, y :: b => by
    rw [Op.bytesLess, Lib.compareBytes]
    by_cases h1 : x < y
    · rw [if_pos h1]; simp [h1]
    · rw [if_neg h1]
      by_cases h2 : y < x
      · rw [if_pos h2]
        have h3 : (x == y) = false := by
          rw [beq_eq_false_iff_ne]
          rintro rfl
          exact h1 h2
        simp [h1, h3]
      · rw [if_neg h2]
        have h3 : x = y := UInt8.toNat_inj.1 (by
          have := mt UInt8.lt_iff_toNat_lt.2 h1
          have := mt UInt8.lt_iff_toNat_lt.2 h2
          omega)
        rw [less_iff a b]
        simp [h1, h3]
theorem cmp_refl : ∀ (a : List UInt8), Lib.compareBytes a a = 0
  | [] => rfl
  | x :: a => by rw [Lib.compareBytes, if_neg (UInt8.lt_irrefl x), if_neg (UInt8.lt_irrefl x)]; exact cmp_refl a
theorem cmp_zero : ∀ {a b : List UInt8}, Lib.compareBytes a b = 0 → a = b
  | [], [], _ => rfl
  | [], _ :: _, h => by cases h
  | _ :: _, [], h => by cases h
  | x :: a, y :: b, h => by
    rw [Lib.compareBytes] at h
    split at h
    · cases h
    · split at h
      · cases h
      · rename_i h1 h2
        have h3 : x = y := UInt8.toNat_inj.1 (by
          have := mt UInt8.lt_iff_toNat_lt.2 h1
          have := mt UInt8.lt_iff_toNat_lt.2 h2
          omega)
        rw [h3, cmp_zero h]
theorem cmp_swap : ∀ (a b : List UInt8), Lib.compareBytes a b = -Lib.compareBytes b a
  | [], [] => rfl
  | [], _ :: _ => rfl
  | _ :: _, [] => rfl
  | x :: a, y :: b => by
    rw [Lib.compareBytes, Lib.compareBytes]
    by_cases h1 : x < y
    · have h2 : ¬ y < x := fun h => by have := UInt8.lt_iff_toNat_lt.1 h1; have := UInt8.lt_iff_toNat_lt.1 h; omega
      rw [if_pos h1, if_neg h2, if_pos h1]
    · rw [if_neg h1]
      by_cases h2 : y < x
      · rw [if_pos h2, if_pos h2]; rfl
      · rw [if_neg h2, if_neg h2, if_neg h1]; exact cmp_swap a b
theorem cmp_trans : ∀ {a b c : List UInt8}, Lib.compareBytes a b < 0 → Lib.compareBytes b c < 0 → Lib.compareBytes a c < 0
  | _, [], [], _, h => by cases h
  | [], [], _ :: _, h, _ => by cases h
  | _ :: _, [], _ :: _, h, _ => by cases h
  | [], _ :: _, [], _, h => by cases h
  | _ :: _, _ :: _, [], _, h => by cases h
  | [], _ :: _, _ :: _, _, _ => by show (-1 : Int) < 0; decide
  | x :: a, y :: b, z :: c, h1, h2 => by
    rw [Lib.compareBytes] at h1 h2 ⊢
    have tx := @UInt8.lt_iff_toNat_lt x y
    have ty := @UInt8.lt_iff_toNat_lt y z
    have tz := @UInt8.lt_iff_toNat_lt x z
    have sx := @UInt8.lt_iff_toNat_lt y x
    have sy := @UInt8.lt_iff_toNat_lt z y
    have sz := @UInt8.lt_iff_toNat_lt z x
    by_cases q1 : x < y
    · by_cases q2 : y < z
      · rw [if_pos (tz.2 (by have := tx.1 q1; have := ty.1 q2; omega))]; decide
      · rw [if_neg q2] at h2
        by_cases q3 : z < y
        · rw [if_pos q3] at h2; cases h2
        · have : y.toNat = z.toNat := by have := mt ty.2 q2; have := mt sy.2 q3; omega
          rw [if_pos (tz.2 (by have := tx.1 q1; omega))]; decide
    · rw [if_neg q1] at h1
      by_cases q2 : y < x
      · rw [if_pos q2] at h1; cases h1
      · rw [if_neg q2] at h1
        have hxy : x.toNat = y.toNat := by have := mt tx.2 q1; have := mt sx.2 q2; omega
        by_cases q3 : y < z
        · rw [if_pos (tz.2 (by have := ty.1 q3; omega))]; decide
        · rw [if_neg q3] at h2
          by_cases q4 : z < y
          · rw [if_pos q4] at h2; cases h2
          · rw [if_neg q4] at h2
            have hyz : y.toNat = z.toNat := by have := mt ty.2 q3; have := mt sy.2 q4; omega
            rw [if_neg (mt tz.1 (by omega)), if_neg (mt sz.1 (by omega))]
            exact cmp_trans h1 h2
end Go.K
