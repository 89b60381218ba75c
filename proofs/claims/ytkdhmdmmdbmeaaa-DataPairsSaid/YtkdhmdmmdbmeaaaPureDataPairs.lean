/- Proved: a pair's code point is told by its two, and they by it; the first one has the class 0, the second one another; and what is no pair is told by none. -/
import Derived.Test.YtkdhmdmmdbmeaaaKlaw
import Derived.Test.YtkdhmdmmdbmeaaaPrC4
namespace Go.Proofs.Ytkdhmdmmdbmeaaa.Pure
open Go.RowKit Go.Proofs.Ytkdhmdmmdbmeaaa.Pr Go.Proofs.YtkdhmdmmdbmeaaaW.PrintWords Go.Proofs.YtkdhmdmmdbmeaaaW.PrintLast
set_option linter.unusedVariables false
set_option linter.unusedSimpArgs false
theorem pair_first (r : Int) (x : S40) (h : (uP0 ++ uP1).find? (fun x => x.f0 == r) = some x) : x ∈ uP0 ++ uP1 ∧ x.f0 = r := ⟨List.mem_of_find?_eq_some h, by simpa using List.find?_some h⟩
/-- Of a pair: it is found by its two, and by itself; the classes. -/
def okPair (x : S40) : Bool := (match (uP0 ++ uP1).find? (fun y => y.f1 == x.f1 && y.f2 == x.f2) with | some y => y.f0 == x.f0 | none => false) && (match (uP0 ++ uP1).find? (fun y => y.f0 == x.f0) with | some y => y.f1 == x.f1 && y.f2 == x.f2 | none => false) && (findU x.f1).f5 == 0 && (findU x.f2).f5 != 0 && (findU x.f0).f5 == 0 && x.f0 != 8486 && x.f0 != 8490 && x.f0 != 8491
theorem pairs_all : ((uP0 ++ uP1).all okPair) = true := by decide +kernel
theorem ofP_eq (p : S40 → Bool) : ofP p = match (uP0 ++ uP1).find? p with | some x => (x, true) | none => (z3, false) := rfl
theorem pair_told (x : S40) (h : x ∈ uP0 ++ uP1) : unidata_Pair.f x.f1 x.f2 = some (x.f0, true) ∧ unidata_Decomp.f x.f0 = some [x.f1, x.f2] ∧ (findU x.f1).f5 = 0 ∧ ¬ (findU x.f2).f5 = 0 ∧ (findU x.f0).f5 = 0 := by
  have H := List.all_eq_true.1 pairs_all x h
  unfold okPair at H
  unfold unidata_Pair.f unidata_Decomp.f
  rw [ofP_eq, ofP_eq]
  cases h1 : (uP0 ++ uP1).find? (fun y => y.f1 == x.f1 && y.f2 == x.f2) with
  | none => rw [h1] at H; simp at H
  | some y =>
    cases h2 : (uP0 ++ uP1).find? (fun y => y.f0 == x.f0) with
    | none => rw [h2] at H; simp at H
    | some z =>
      rw [h1, h2] at H
      simp [and_assoc] at H
      obtain ⟨a, b, c, d, e, f, g, i, j⟩ := H
      simp [a, b, c, d, e, f, g, i, j]
theorem decomp_len (r : Int) : ∃ l : List Int, unidata_Decomp.f r = some l ∧ (l.length ≤ 2) ∧ (l.length = 2 → ∃ x ∈ uP0 ++ uP1, x.f0 = r ∧ l = [x.f1, x.f2]) := by
  unfold unidata_Decomp.f
  refine ⟨_, rfl, ?_⟩
  split
  · simp
  split
  · simp
  split
  · simp
  rw [ofP_eq]
  cases h2 : (uP0 ++ uP1).find? (fun y => y.f0 == r) with
  | none => simp
  | some x =>
    simp
    exact ⟨x, by simpa using (pair_first r x h2).1, (pair_first r x h2).2, rfl, rfl⟩
theorem pair_any_two (a b : Int) : (∃ x ∈ uP0 ++ uP1, x.f1 = a ∧ x.f2 = b ∧ unidata_Pair.f a b = some (x.f0, true)) ∨ unidata_Pair.f a b = some (0, false) := by
  unfold unidata_Pair.f
  rw [ofP_eq]
  cases h : (uP0 ++ uP1).find? (fun y => y.f1 == a && y.f2 == b) with
  | none => exact .inr rfl
  | some x =>
    have := List.find?_some h
    simp at this
    exact .inl ⟨x, List.mem_of_find?_eq_some h, this.1, this.2, rfl⟩
theorem pairs_tail (j : Nat) (a b : Int) (l : List Int) (hl : l.length ≤ 2) : portcullislaw03_DataPairs.j0 (j + 20) a b l = some true := by
  have d := works_eq (j + 9)
  have hl' : (l.length : Int) ≤ 2 := by omega
  rcases pair_any_two a b with ⟨x, hx, rfl, rfl, h⟩ | h
  · obtain ⟨_, h2, _⟩ := pair_told x hx
    have e := runes_self (j + 15) [x.f1, x.f2] (by simp)
    simp [portcullislaw03_DataPairs.j0, h, h2, e, d, hl']
  · simp [portcullislaw03_DataPairs.j0, h, d, hl']
theorem DataPairs : portcullislaw03_DataPairs.Pure := fun r a b _ _ _ => ⟨0 + 20, by
  obtain ⟨l, h, hl, h2⟩ := decomp_len r
  have t := pairs_tail 0 a b l hl
  unfold portcullislaw03_DataPairs.f
  rw [h, Option.bind_some]
  by_cases e : l.length = 2
  · obtain ⟨x, hx, rfl, rfl⟩ := h2 e
    obtain ⟨h1, _, h3, h4, h5⟩ := pair_told x hx
    simp [rd, h1, class_eq, h3, h4, h5]
    simpa using t
  · rw [if_neg (show ¬ (l.length : Int) = 2 by omega)]
    exact t⟩
end Go.Proofs.Ytkdhmdmmdbmeaaa.Pure
