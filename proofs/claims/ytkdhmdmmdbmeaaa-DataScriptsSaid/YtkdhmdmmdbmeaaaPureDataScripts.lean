/- Proved: what something is mapped to is of its own script, and marks have a bidi class and a joining type of their own. -/
import Derived.Test.YtkdhmdmmdbmeaaaKlaw
import Derived.Test.YtkdhmdmmdbmeaaaPrC3
namespace Go.Proofs.Ytkdhmdmmdbmeaaa.Pure
open Go.RowKit Go.Proofs.Ytkdhmdmmdbmeaaa.Pr Go.Proofs.YtkdhmdmmdbmeaaaW.PrintWords Go.Proofs.YtkdhmdmmdbmeaaaW.PrintLast
set_option linter.unusedVariables false
set_option linter.unusedSimpArgs false
/-- Of a row of a class: it is a mark. -/
def okMark (x : S37) (r : Int) : Bool := x.f5 == 0 || (x.f7 && x.f4 == 8 && x.f6 == 4 && x.f2 == 1)
theorem mark_all : (uAll.all fun x => (rowPts x).all (okMark x)) = true := by decide +kernel
theorem mark_ok (r : Int) (h : ¬ (findU r).f5 = 0) : (findU r).f7 = true ∧ (findU r).f4 = 8 ∧ (findU r).f6 = 4 ∧ (findU r).f2 = 1 := by
  have H := by_rows mark_all r rfl
  unfold okMark at H
  simpa [h, and_assoc] using H
theorem script_tail (j : Nat) (r : Int) (l : List Int) (i : Int) (hi : ¬ i < (l.length : Int)) : portcullislaw03_DataScripts.l0 (j + 12) r l i = some true := by
  have d := works_eq (j + 1)
  simp only [portcullislaw03_DataScripts.l0]
  rw [if_neg hi]
  simp only [class_eq, mark_eq, bidi_eq, joining_eq, status_eq, Option.bind_some]
  by_cases h : (findU r).f5 = 0
  · simp [h, d]
  · obtain ⟨h1, h2, h3, h4⟩ := mark_ok r h
    simp [h, h1, h2, h3, h4, d]
theorem script_head (j : Nat) (r : Int) (l : List Int) (h1 : l.length ≤ 2) (h2 : ∀ y ∈ l, (findU y).f3 = (findU r).f3) : portcullislaw03_DataScripts.l0 (j + 20) r l 0 = some true := by
  match l, h1, h2 with
  | [], _, _ => exact script_tail (j + 8) r [] 0 (by simp)
  | [a], _, h2 =>
    have := script_tail (j + 7) r [a] 1 (by simp)
    have ha := h2 a (by simp)
    rw [show j + 20 = (j + 7 + 12) + 1 from rfl]
    unfold portcullislaw03_DataScripts.l0
    simpa [script_eq, rd, wrap64, ha] using this
  | [a, b], _, h2 =>
    have := script_tail (j + 6) r [a, b] 2 (by simp)
    have ha := h2 a (by simp)
    have hb := h2 b (by simp)
    rw [show j + 20 = (j + 6 + 12) + 1 + 1 from rfl]
    unfold portcullislaw03_DataScripts.l0
    unfold portcullislaw03_DataScripts.l0
    simpa [script_eq, rd, wrap64, ha, hb] using this
theorem DataScripts : portcullislaw03_DataScripts.Pure := fun r _ => ⟨0 + 20, by
  obtain ⟨l, h, h1, h2⟩ := map_ok 18 r
  unfold portcullislaw03_DataScripts.f
  rw [show 0 + 20 = 18 + 2 from rfl, h]
  exact script_head 0 r l h1 fun y hy => (h2 y hy).2.2⟩
end Go.Proofs.Ytkdhmdmmdbmeaaa.Pure
