/- Proved: what something is mapped to is neither mapped nor ignored, and what something looks like looks like itself. -/
import Derived.Test.YtkdhmdmmdbmeaaaKlaw
import Derived.Test.YtkdhmdmmdbmeaaaPrC2
namespace Go.Proofs.Ytkdhmdmmdbmeaaa.Pure
open Go.RowKit Go.Proofs.Ytkdhmdmmdbmeaaa.Pr Go.Proofs.YtkdhmdmmdbmeaaaW.PrintWords Go.Proofs.YtkdhmdmmdbmeaaaW.PrintLast
set_option linter.unusedVariables false
set_option linter.unusedSimpArgs false
theorem rest_tail (j : Nat) (r : Int) : ((unidata_Like.f (j + 16) r).bind fun t => portcullislaw03_DataRests.l1 (j + 16) t 0) = some true := by
  refine like_cases (p := fun r => ((unidata_Like.f (j + 16) r).bind fun t => portcullislaw03_DataRests.l1 (j + 16) t 0) = some true) r (by kernel_rfl) (by kernel_rfl) (by kernel_rfl) (by kernel_rfl) (by kernel_rfl) (by kernel_rfl) (by kernel_rfl) (by kernel_rfl) (by kernel_rfl) (by kernel_rfl) (by kernel_rfl) (by kernel_rfl) (by kernel_rfl) (by kernel_rfl) (by kernel_rfl) (by kernel_rfl) (by kernel_rfl) (by kernel_rfl) (by kernel_rfl) (by kernel_rfl) fun h1 h2 => ?_
  have a := h2 (j + 11)
  have b := h2 (j + 10)
  have c := runes_self (j + 11) [r] (by simp)
  have d := works_eq (j + 4)
  simp [a, b, c, d, portcullislaw03_DataRests.l1, rd, wrap64]
theorem rest_head (j : Nat) (r : Int) (l : List Int) (h1 : l.length ≤ 2) (h2 : ∀ y ∈ l, (findU y).f2 ≠ 3 ∧ (findU y).f2 ≠ 2) : portcullislaw03_DataRests.l0 (j + 20) r l 0 = some true := by
  match l, h1, h2 with
  | [], _, _ =>
    have := rest_tail (j + 3) r
    simp only [portcullislaw03_DataRests.l0]
    simpa using this
  | [a], _, h2 =>
    have := rest_tail (j + 2) r
    have ha := h2 a (by simp)
    simpa [portcullislaw03_DataRests.l0, status_eq, rd, wrap64, ha.1, ha.2] using this
  | [a, b], _, h2 =>
    have := rest_tail (j + 1) r
    have ha := h2 a (by simp)
    have hb := h2 b (by simp)
    simpa [portcullislaw03_DataRests.l0, status_eq, rd, wrap64, ha.1, ha.2, hb.1, hb.2] using this
theorem DataRests : portcullislaw03_DataRests.Pure := fun r _ => ⟨0 + 20, by
  obtain ⟨l, h, h1, h2⟩ := map_ok 18 r
  unfold portcullislaw03_DataRests.f
  rw [show 0 + 20 = 18 + 2 from rfl, h]
  exact rest_head 0 r l h1 fun y hy => ⟨(h2 y hy).1, (h2 y hy).2.1⟩⟩
end Go.Proofs.Ytkdhmdmmdbmeaaa.Pure
