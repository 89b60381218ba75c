import Derived.Test.YtbgmepfejbbpaaaDoorGpr
namespace Go.Proofs.YtbgmepfejbbpaaaDoor.Pr
open Go.RowKit Go.Proofs.YtbgmepfejbbpaaaDoorW.PrintWords Go.Proofs.YtbgmepfejbbpaaaDoorW.PrintLast Go.Proofs.YtbgmepfejbbpaaaDoorW.PrintMore
set_option linter.unusedVariables false
set_option linter.unusedSimpArgs false

/-! ### The two colons, by their place -/
def D2 (s : List UInt8) (j : Nat) : Prop := s[j]? = some 58 ∧ s[j + 1]? = some 58
theorem D2_cons (c : UInt8) (l : List UInt8) (j : Nat) : D2 (c :: l) (j + 1) ↔ D2 l j := by
  unfold D2
  rw [List.getElem?_cons_succ, List.getElem?_cons_succ]
theorem D2_zero (c : UInt8) (l : List UInt8) : D2 (c :: l) 0 ↔ c = 58 ∧ l.head? = some 58 := by
  unfold D2
  rw [List.getElem?_cons_zero, List.getElem?_cons_succ, Option.some.injEq, List.head?_eq_getElem?]
theorem dcut_none : ∀ s : List UInt8, (∀ j, ¬ D2 s j) → dcut s = none
  | [], _ => rfl
  | c :: l, h => by
    unfold dcut
    rw [if_neg (fun e => h 0 ((D2_zero c l).2 e)), dcut_none l (fun j e => h (j + 1) ((D2_cons c l j).2 e))]
theorem dcut_some : ∀ (s : List UInt8) (k : Nat), D2 s k → (∀ j, j < k → ¬ D2 s j) → dcut s = some (s.take k, s.drop (k + 2))
  | [], k, h, _ => by simp [D2] at h
  | c :: l, 0, h, _ => by
    have e := (D2_zero c l).1 h
    unfold dcut
    rw [if_pos e]
    cases l with
    | nil => simp at e
    | cons d t => rfl
  | c :: l, k + 1, h, hn => by
    unfold dcut
    rw [if_neg (fun e => hn 0 (by omega) ((D2_zero c l).2 e)), dcut_some l k ((D2_cons c l k).1 h) (fun j hj e => hn (j + 1) (by omega) ((D2_cons c l j).2 e))]
    rfl
theorem D2_drop (s : List UInt8) (a j : Nat) : D2 (s.drop a) j ↔ D2 s (a + j) := by
  unfold D2
  rw [List.getElem?_drop, List.getElem?_drop, Nat.add_assoc]
theorem D2_split : ∀ (s : List UInt8) (k : Nat), D2 s k → ∃ u t, s = u ++ 58 :: 58 :: t
  | [], k, h => by simp [D2] at h
  | c :: l, 0, h => by
    obtain ⟨rfl, e⟩ := (D2_zero c l).1 h
    obtain ⟨t, rfl⟩ := hd58 e
    exact ⟨[], t, rfl⟩
  | c :: l, k + 1, h => by
    obtain ⟨u, t, rfl⟩ := D2_split l k ((D2_cons c l k).1 h)
    exact ⟨c :: u, t, rfl⟩
theorem piL_double (t : List UInt8) (last : Bool) : ∀ (n : Nat) (u : List UInt8), u.length ≤ n → piL (pcs 58 (u ++ 58 :: 58 :: t)) last = none
  | n, u, hu => by
    rcases seg_ways 58 u with hp | ⟨p, r, hp, rfl⟩
    · rw [pcs_app 58 _ u hp, piL_cons _ _ _ (pcs_ne _ _), piL_empty]
      cases pcF u <;> rfl
    · cases n with
      | zero => simp at hu
      | succ n =>
        have e : (p ++ 58 :: r) ++ 58 :: 58 :: t = p ++ 58 :: (r ++ 58 :: 58 :: t) := by simp
        rw [e, pcs_app 58 _ p hp, piL_cons _ _ _ (pcs_ne _ _), piL_double t last n r (by simp at hu; omega)]
        cases pcF p <;> rfl
theorem refA_two (s : List UInt8) (k i : Nat) (hk : D2 s k) (hn : ∀ j, j < k → ¬ D2 s j) (hi : k < i) (h : D2 s i) : refA s = none := by
  unfold refA
  rw [dcut_some s k hk hn]
  simp only
  have hv : piF (s.drop (k + 2)) true = none := by
    by_cases h1 : i = k + 1
    · subst h1
      have e := h.2
      have hlt : k + 1 + 1 < s.length := (List.getElem?_eq_some_iff.1 e).1
      have hd : s.drop (k + 2) = 58 :: s.drop (k + 3) := by
        rw [List.drop_eq_getElem_cons (by omega)]
        congr 1
        have := (List.getElem?_eq_some_iff.1 e).2
        exact this
      unfold piF
      rw [hd, if_neg (by simp), piL_empty]
    · have h2 : D2 (s.drop (k + 2)) (i - (k + 2)) := by
        rw [D2_drop, show k + 2 + (i - (k + 2)) = i by omega]; exact h
      obtain ⟨u, t, e⟩ := D2_split _ _ h2
      unfold piF
      rw [e, if_neg (by simp), piL_double t true _ u (Nat.le_refl _)]
  rw [hv]
  cases piF (s.take k) false <;> rfl
/-- What the scan has seen. -/
def ScanP (s : List UInt8) (c : Int) (i : Nat) : Prop := (c = -1 ∧ ∀ j, j < i → ¬ D2 s j) ∨ (∃ k : Nat, c = (k : Int) ∧ k < i ∧ D2 s k ∧ ∀ j, j < i → j ≠ k → ¬ D2 s j)
theorem ScanP.start (s : List UInt8) : ScanP s (-1) 0 := .inl ⟨rfl, fun j h => absurd h (by omega)⟩
theorem ScanP.no {s : List UInt8} {c : Int} {i : Nat} (h : ScanP s c i) (hn : ¬ D2 s i) : ScanP s c (i + 1) := by
  rcases h with ⟨e, h⟩ | ⟨k, e, hk, hd, h⟩
  · refine .inl ⟨e, fun j hj => ?_⟩
    rcases Nat.lt_succ_iff_lt_or_eq.1 hj with hj | rfl
    · exact h j hj
    · exact hn
  · refine .inr ⟨k, e, by omega, hd, fun j hj hne => ?_⟩
    rcases Nat.lt_succ_iff_lt_or_eq.1 hj with hj | rfl
    · exact h j hj hne
    · exact hn
theorem ScanP.yes {s : List UInt8} {c : Int} {i : Nat} (h : ScanP s c i) (hc : c < 0) (hn : D2 s i) : ScanP s (i : Int) (i + 1) := by
  rcases h with ⟨e, h⟩ | ⟨k, e, hk, hd, h⟩
  · refine .inr ⟨i, rfl, by omega, hn, fun j hj hne => ?_⟩
    exact h j (by omega)
  · omega
theorem ScanP.two {s : List UInt8} {c : Int} {i : Nat} (h : ScanP s c i) (hc : 0 ≤ c) (hn : D2 s i) : refA s = none := by
  rcases h with ⟨e, h⟩ | ⟨k, e, hk, hd, h⟩
  · omega
  · exact refA_two s k i hd (fun j hj => h j (by omega) (by omega)) hk hn
theorem D2_lt {s : List UInt8} {j : Nat} (h : D2 s j) : j + 1 < s.length := (List.getElem?_eq_some_iff.1 h.2).1
theorem ScanP.fin {s : List UInt8} {c : Int} {i : Nat} (h : ScanP s c i) (hi : s.length ≤ i + 1) : (c = -1 ∧ dcut s = none) ∨ (∃ k : Nat, c = (k : Int) ∧ k + 2 ≤ s.length ∧ dcut s = some (s.take k, s.drop (k + 2))) := by
  rcases h with ⟨e, h⟩ | ⟨k, e, hk, hd, h⟩
  · refine .inl ⟨e, dcut_none s fun j hj => ?_⟩
    have := D2_lt hj
    exact h j (by omega) hj
  · have := D2_lt hd
    exact .inr ⟨k, e, by omega, dcut_some s k hd fun j hj => h j (by omega) (by omega)⟩
theorem D2_at {s : List UInt8} {i : Nat} (h1 : i + 1 < s.length) : D2 s i ↔ s[i] = 58 ∧ s[i + 1] = 58 := by
  unfold D2
  rw [List.getElem?_eq_getElem (by omega), List.getElem?_eq_getElem h1, Option.some.injEq, Option.some.injEq]
end Go.Proofs.YtbgmepfejbbpaaaDoor.Pr
