import Derived.Test.YtkdhmdmmdbmeaaaKto
import Derived.Test.YtkdhmdmmdbmeaaaPrC1
import Derived.Test.YtkdhmdmmdbmeaaaPrA2
namespace Go.Proofs.Ytkdhmdmmdbmeaaa.Pr
open Go.RowKit Go.Proofs.YtkdhmdmmdbmeaaaW.PrintWords Go.Proofs.YtkdhmdmmdbmeaaaW.PrintLast Go.Proofs.YtkdhmdmmdbmeaaaW.PrintMore
set_option linter.unusedVariables false
set_option linter.unusedSimpArgs false

theorem like_cases {p : Int → Prop} (r : Int) (h48 : p 48) (h49 : p 49) (h109 : p 109) (h945 : p 945) (h957 : p 957) (h959 : p 959) (h961 : p 961) (h1072 : p 1072) (h1077 : p 1077) (h1086 : p 1086) (h1088 : p 1088) (h1089 : p 1089) (h1091 : p 1091) (h1093 : p 1093) (h1109 : p 1109) (h1110 : p 1110) (h1112 : p 1112) (h1505 : p 1505) (h1575 : p 1575) (h12540 : p 12540) (h : portcullisref03_Like.f r = some [r] → (∀ k, unidata_Like.f (k + 5) r = some [r]) → p r) : p r := by
  by_cases c48 : r = 48
  · rw [c48]; exact h48
  by_cases c49 : r = 49
  · rw [c49]; exact h49
  by_cases c109 : r = 109
  · rw [c109]; exact h109
  by_cases c945 : r = 945
  · rw [c945]; exact h945
  by_cases c957 : r = 957
  · rw [c957]; exact h957
  by_cases c959 : r = 959
  · rw [c959]; exact h959
  by_cases c961 : r = 961
  · rw [c961]; exact h961
  by_cases c1072 : r = 1072
  · rw [c1072]; exact h1072
  by_cases c1077 : r = 1077
  · rw [c1077]; exact h1077
  by_cases c1086 : r = 1086
  · rw [c1086]; exact h1086
  by_cases c1088 : r = 1088
  · rw [c1088]; exact h1088
  by_cases c1089 : r = 1089
  · rw [c1089]; exact h1089
  by_cases c1091 : r = 1091
  · rw [c1091]; exact h1091
  by_cases c1093 : r = 1093
  · rw [c1093]; exact h1093
  by_cases c1109 : r = 1109
  · rw [c1109]; exact h1109
  by_cases c1110 : r = 1110
  · rw [c1110]; exact h1110
  by_cases c1112 : r = 1112
  · rw [c1112]; exact h1112
  by_cases c1505 : r = 1505
  · rw [c1505]; exact h1505
  by_cases c1575 : r = 1575
  · rw [c1575]; exact h1575
  by_cases c12540 : r = 12540
  · rw [c12540]; exact h12540
  refine h ?_ fun k => ?_
  · simp [portcullisref03_Like.f, *]
  · simp [unidata_Like.f, unidata_Like.j0, unidata_Like.j1, unidata_Like.j2, unidata_Like.j3, *]
theorem like_eq (k : Nat) (r : Int) : unidata_Like.f (k + 5) r = portcullisref03_Like.f r := by
  refine like_cases (p := fun r => unidata_Like.f (k + 5) r = portcullisref03_Like.f r) r rfl rfl rfl rfl rfl rfl rfl rfl rfl rfl rfl rfl rfl rfl rfl rfl rfl rfl rfl rfl fun h1 h2 => ?_
  rw [h1, h2]

theorem works_eq (k : Nat) : portcullislaw03_works.f (k + 10) = some true := by kernel_rfl
theorem status_eq (r : Int) : unidata_Status.f r = some (findU r).f2 := rfl
theorem script_eq (r : Int) : unidata_Script.f r = some (findU r).f3 := rfl
theorem bidi_eq (r : Int) : unidata_Bidi.f r = some (findU r).f4 := rfl
theorem class_eq (r : Int) : unidata_Class.f r = some (findU r).f5 := rfl
theorem joining_eq (r : Int) : unidata_Joining.f r = some (findU r).f6 := rfl
theorem mark_eq (r : Int) : unidata_Mark.f r = some (findU r).f7 := rfl
theorem map_eq (k : Nat) (r : Int) : unidata_Map.f (k + 2) r = if (findU r).f2 = 1 ∨ (findU r).f2 = 4 then some [r] else if (findU r).f2 = 3 then unidata_to.f r else some [] := by
  unfold unidata_Map.f
  rw [status_eq]
  simp only [Option.bind_some]
  by_cases h1 : (findU r).f2 = 1
  · simp [h1, unidata_Map.j0]
  · by_cases h4 : (findU r).f2 = 4
    · simp [h4, unidata_Map.j0]
    · by_cases h3 : (findU r).f2 = 3
      · simp [h3, unidata_Map.j0] <;> (cases unidata_to.f r <;> rfl)
      · simp [h1, h3, h4, unidata_Map.j0]
theorem runes_self (k : Nat) (l : List Int) (h : l.length ≤ 2) : portcullislaw03_runes.f (k + 4) l l = some true := by
  match l, h with
  | [], _ => simp [portcullislaw03_runes.f, portcullislaw03_runes.l0]
  | [a], _ => simp [portcullislaw03_runes.f, portcullislaw03_runes.l0, rd, wrap64]
  | [a, b], _ => simp [portcullislaw03_runes.f, portcullislaw03_runes.l0, rd, wrap64]
/-- All of a row's code points. -/
def rowPts (x : S37) : List Int := (List.range (x.f1 - x.f0 + 1).toNat).map fun (i : Nat) => x.f0 + (i : Int)
def uAll : List S37 := uT0 ++ uT1 ++ uT2
theorem mem_rowPts {x : S37} {r : Int} (h : inU r x = true) : r ∈ rowPts x := by
  unfold inU at h
  simp at h
  unfold rowPts
  rw [List.mem_map]
  exact ⟨(r - x.f0).toNat, by rw [List.mem_range]; omega, by omega⟩
/-- What holds of all rows and their code points, and of a code point in no row, holds of a code point's own row. -/
theorem by_rows {p : S37 → Int → Bool} (h : (uAll.all fun x => (rowPts x).all (p x)) = true) (r : Int) (h0 : p z37 r = true) : p (findU r) r = true := by
  cases hf : uAll.find? (inU r) with
  | none =>
    have : findU r = z37 := by unfold findU; unfold uAll at hf; rw [hf]; rfl
    rw [this]; exact h0
  | some x =>
    have : findU r = x := by unfold findU; unfold uAll at hf; rw [hf]; rfl
    rw [this]
    exact List.all_eq_true.1 (List.all_eq_true.1 h x (List.mem_of_find?_eq_some hf)) r (mem_rowPts (List.find?_some hf))
/-- Of what is mapped: what it is mapped to. -/
def okTo (x : S37) (r : Int) : Bool := x.f2 != 3 || match unidata_to.f r with
  | some l => decide (l.length ≤ 2) && l.all fun y => (findU y).f2 != 3 && (findU y).f2 != 2 && (findU y).f3 == x.f3
  | none => false
theorem to_all : (uAll.all fun x => (rowPts x).all (okTo x)) = true := by decide +kernel
theorem to_ok (r : Int) (h : (findU r).f2 = 3) : ∃ l : List Int, unidata_to.f r = some l ∧ l.length ≤ 2 ∧ ∀ y ∈ l, (findU y).f2 ≠ 3 ∧ (findU y).f2 ≠ 2 ∧ (findU y).f3 = (findU r).f3 := by
  have H := by_rows to_all r rfl
  unfold okTo at H
  rw [h] at H
  cases hl : unidata_to.f r with
  | none => rw [hl] at H; exact absurd H (by simp)
  | some l =>
    rw [hl] at H
    refine ⟨l, rfl, ?_⟩
    simpa [and_assoc] using H
/-- What anything is mapped to. -/
theorem map_ok (k : Nat) (r : Int) : ∃ l : List Int, unidata_Map.f (k + 2) r = some l ∧ l.length ≤ 2 ∧ ∀ y ∈ l, (findU y).f2 ≠ 3 ∧ (findU y).f2 ≠ 2 ∧ (findU y).f3 = (findU r).f3 := by
  rw [map_eq]
  by_cases h : (findU r).f2 = 1 ∨ (findU r).f2 = 4
  · rw [if_pos h]
    refine ⟨_, rfl, by simp, fun y hy => ?_⟩
    obtain rfl : y = r := by simpa using hy
    exact ⟨by omega, by omega, rfl⟩
  · rw [if_neg h]
    by_cases h3 : (findU r).f2 = 3
    · rw [if_pos h3]; exact to_ok r h3
    · rw [if_neg h3]; exact ⟨_, rfl, by simp, fun y hy => by simp at hy⟩
end Go.Proofs.Ytkdhmdmmdbmeaaa.Pr
