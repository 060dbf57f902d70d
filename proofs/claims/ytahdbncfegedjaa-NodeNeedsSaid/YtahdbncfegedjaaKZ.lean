/-
  KZ: what is owned, handed to a function that only reads it, and given up; what a call froze is forgotten. Generic over the program. Conditions: none.
-/
import Derived.Test.YtahdbncfegedjaaKY
namespace Go.K
set_option linter.unusedVariables false
set_option linter.unusedSimpArgs false

theorem Ok.forget {h h1 : Base} {F : List Asrt} {w : World} (hle : h.le h1) (ok : Ok h1 F w) : Ok h F w :=
  ⟨ok.os.trans hle.os, ok.tape.trans hle.tape, ok.output.trans hle.output, ⟨fun b o hb => ok.sat.imm b o (hle.mem b o hb), ok.sat.own⟩, ok.nd, fun b hb => by
    cases hm : h.mem b with
    | none => rfl
    | some o => have := hle.mem b o hm; rw [ok.dj b hb] at this; cases this⟩
section
variable {P : Program} {n : NN} {Q : Exit → Act → World → Prop} {E : Env} {h h1 : Base} {A R F : List Asrt} {ops : Array Oper}
theorem AT.forget {q : Exit} (hle : h.le h1) (hx : AT P n Q q E h F) : AT P n Q q E h1 F := ⟨fun a w fa ok => hx.run a w fa (Ok.forget hle ok)⟩
theorem WL.forget {L : List Oper} (hle : h.le h1) (hx : WL P n ops Q L E h F) : WL P n ops Q L E h1 F := ⟨fun a w fa ok => hx.run a w fa (Ok.forget hle ok)⟩
theorem WC.forget {c : Code} (hle : h.le h1) (hx : WC P n c Q E h F) : WC P n c Q E h1 F := ⟨fun a w fa ok => hx.run a w fa (Ok.forget hle ok)⟩
theorem AT.dropsA {q : Exit} (hx : AT P n Q q E h F) : AT P n Q q E h (A ++ F) := ⟨fun a w fa ok => hx.run a w fa ok.drops⟩
theorem WL.dropsA {L : List Oper} (hx : WL P n ops Q L E h F) : WL P n ops Q L E h (A ++ F) := ⟨fun a w fa ok => hx.run a w fa ok.drops⟩
/-- What is owned is read, and given up. -/
theorem Tr.give {f : FuncId} {args : List Value} {Q : Value → List Asrt → Prop} (ht : ∀ h', h.le h' → Says h' A → Tr P f args h' R (fun u h1 H1 => Q u H1)) :
    Tr P f args h (A ++ R) (fun u h1 H1 => h1 = h ∧ Q u H1) := fun F w ok => by
  rw [List.append_assoc] at ok
  obtain ⟨h', hle, hs, ok', _⟩ := ok.freezeA
  refine Calls.mono (ht h' hle hs F w ok') fun e w' ⟨u, he, h1, H1, hle1, q2, ok1⟩ => ⟨u, he, h, H1, .refl _, ⟨rfl, q2⟩, ?_⟩
  exact Ok.forget (hle.trans hle1) ok1
/-- What a call froze is forgotten. -/
theorem Tr.forget {f : FuncId} {args : List Value} {Q : Value → List Asrt → Prop} (ht : Tr P f args h R (fun u h1 H1 => Q u H1)) : Tr P f args h R (fun u h1 H1 => h1 = h ∧ Q u H1) := fun F w ok =>
  Calls.mono (ht F w ok) fun e w' ⟨u, he, h1, H1, hle1, q2, ok1⟩ => ⟨u, he, h, H1, .refl _, ⟨rfl, q2⟩, Ok.forget hle1 ok1⟩
end
theorem says_blk {h : Base} {T b : Nat} {cs : List Value} (hs : Says h [blk b T cs]) : Cels h [] b 0 cs := cels_of fun j u hj => ⟨fun w hw => by
  have e := hs.2 w hw _ (List.mem_singleton.2 rfl)
  rw [Nat.zero_add]
  exact (cel_own (K := [blk b T cs]) (h := h) 0 rfl hj).run w ⟨hw.imm, fun A hA => by
    rw [List.mem_singleton] at hA; subst hA; exact e⟩⟩
abbrev n64 (x : Nat) : Value := .int .u64 (x : Int)
/-- Numbers in a slice of the base. -/
def U64s (h : Base) (v : Value) (xs : List Nat) : Prop := SL h 1 v (xs.map fun x => [n64 x])
theorem says_nums {h : Base} {T b : Nat} {xs : List Nat} (hs : Says h [blk b T (xs.map n64)]) : U64s h (.slice (some ⟨b, 0, none⟩) xs.length xs.length) xs := by
  have hc := says_blk hs
  refine .inr ⟨b, 0, xs.length, by rw [List.length_map], by rw [List.length_map]; exact Nat.le_refl _, fun j hj => ?_⟩
  rw [List.length_map] at hj
  rw [List.getElem_map]
  refine ⟨rfl, ?_⟩
  have := hc.get j (n64 xs[j]) (by rw [List.getElem?_map, List.getElem?_eq_getElem hj]; rfl)
  rw [Nat.zero_add, Nat.mul_one]
  rw [Nat.zero_add] at this
  exact ⟨this, trivial⟩
end Go.K
