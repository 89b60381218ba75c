import Derived.Test.YtbgmepfejbbpaaaDoorGpr
import Derived.Test.YtbgmepfejbbpaaaDoorKtext
namespace Go.Proofs.YtbgmepfejbbpaaaDoor.Pr
open Go.RowKit Go.Proofs.YtbgmepfejbbpaaaDoorW.PrintWords Go.Proofs.YtbgmepfejbbpaaaDoorW.PrintLast Go.Proofs.YtbgmepfejbbpaaaDoorW.PrintMore
set_option linter.unusedVariables false
set_option linter.unusedSimpArgs false

/-! ### An address's text, as the document builds it -/
theorem bestG (L : List Nat) (i : Nat) (hi : i < L.length) (a : Int) (m : Nat) : bestF (L.drop i) i a m = if m < runZ (L.drop i) then bestF (L.drop (i + 1)) (i + 1) (i : Int) (runZ (L.drop i)) else bestF (L.drop (i + 1)) (i + 1) a m := by
  rw [List.drop_eq_getElem_cons hi]; rfl
theorem runZ_len : ∀ l, runZ l ≤ l.length
  | [] => Nat.le_refl _
  | x :: xs => by
    have := runZ_len xs
    unfold runZ
    split
    · simp; omega
    · simp
def BestP (L : List Nat) (b : Int × Nat) : Prop := (b.1 = -1 ∧ b.2 = 1) ∨ (0 ≤ b.1 ∧ 2 ≤ b.2 ∧ b.2 = runZ (L.drop b.1.toNat) ∧ b.1.toNat + b.2 ≤ L.length)
theorem bestF_ok (L : List Nat) : ∀ (n i : Nat) (a : Int) (m : Nat), n + i = L.length → BestP L (a, m) → BestP L (bestF (L.drop i) i a m) ∧ ((bestF (L.drop i) i a m).1 < 0 → a < 0 ∧ ∀ j, i ≤ j → runZ (L.drop j) ≤ 1)
  | 0, i, a, m, hn, hP => by
    have e : L.drop i = [] := List.drop_eq_nil_of_le (by omega)
    rw [e]
    refine ⟨hP, fun h => ⟨h, fun j hj => ?_⟩⟩
    rw [List.drop_eq_nil_of_le (by omega)]
    exact Nat.zero_le _
  | n + 1, i, a, m, hn, hP => by
    have hm : 1 ≤ m := by
      rcases hP with ⟨_, h⟩ | ⟨_, h, _⟩
      · exact Nat.le_of_eq h.symm
      · exact Nat.le_trans (by decide) h
    rw [bestG L i (by omega)]
    split
    · next hlt =>
      have hz := runZ_len (L.drop i)
      rw [List.length_drop] at hz
      have ih := bestF_ok L n (i + 1) (i : Int) (runZ (L.drop i)) (by omega) (.inr ⟨by simp, by simp; omega, by simp, by simp; omega⟩)
      exact ⟨ih.1, fun h => absurd (ih.2 h).1 (by omega)⟩
    · next hlt =>
      have ih := bestF_ok L n (i + 1) a m (by omega) hP
      refine ⟨ih.1, fun h => ⟨(ih.2 h).1, fun j hj => ?_⟩⟩
      rcases Nat.eq_or_lt_of_le hj with rfl | hj
      · rcases hP with ⟨_, h1⟩ | ⟨h1, _⟩
        · simp at h1; omega
        · have := (ih.2 h).1; simp at h1; omega
      · exact (ih.2 h).2 j hj
theorem best_all (L : List Nat) : BestP L (bestF L 0 (-1) 1) ∧ ((bestF L 0 (-1) 1).1 < 0 → ∀ j, runZ (L.drop j) ≤ 1) := by
  have h := bestF_ok L L.length 0 (-1) 1 (by omega) (.inl ⟨rfl, rfl⟩)
  rw [List.drop_zero] at h
  exact ⟨h.1, fun e j => (h.2 e).2 j (Nat.zero_le _)⟩
theorem runZ_take : ∀ l : List Nat, l.take (runZ l) = List.replicate (runZ l) 0
  | [] => rfl
  | x :: xs => by
    unfold runZ
    split
    · next h => rw [List.take_succ_cons, List.replicate_succ, runZ_take xs, h]
    · rfl
theorem joinB_snoc (x : Nat) : ∀ l : List Nat, joinB (l ++ [x]) = if l = [] then digs 16 x else joinB l ++ 58 :: digs 16 x
  | [] => by rw [if_pos rfl]; exact joinB_one x
  | [a] => by
    rw [if_neg (by simp)]
    show joinB [a, x] = _
    rw [joinB_cons, joinB_one, joinB_one]
  | a :: b :: r => by
    have ih := joinB_snoc x (b :: r)
    rw [if_neg (by simp)] at ih ⊢
    show joinB (a :: b :: (r ++ [x])) = _
    rw [joinB_cons, joinB_cons]
    have e : joinB (b :: (r ++ [x])) = joinB (b :: r) ++ 58 :: digs 16 x := ih
    rw [e]; simp
theorem joinB_take (L : List Nat) (i : Nat) (hi : i < L.length) : joinB (L.take (i + 1)) = if i = 0 then digs 16 (L.getD i 0) else joinB (L.take i) ++ 58 :: digs 16 (L.getD i 0) := by
  have e : L.getD i 0 = L[i] := by simp [List.getD, hi]
  rw [List.take_succ_eq_append_getElem hi, joinB_snoc, e]
  by_cases h0 : i = 0
  · subst h0; rw [if_pos rfl, if_pos (by simp)]
  · rw [if_neg h0, if_neg (fun e => by
      have := congrArg List.length e
      rw [List.length_take] at this
      simp only [List.length_nil] at this
      omega)]
/-- The text after some rounds. -/
def rtK (L : List Nat) (b : Int × Nat) : Nat → List UInt8
  | 0 => []
  | i + 1 => if 0 ≤ b.1 ∧ b.1 ≤ (i : Int) ∧ (i : Int) < b.1 + (b.2 : Int) then (if (i : Int) = b.1 then rtK L b i ++ [58, 58] else rtK L b i) else (if 0 < i ∧ ((i : Int) ≠ b.1 + (b.2 : Int) ∨ b.1 < 0) then (rtK L b i ++ [58]) ++ digs 16 (L.getD i 0) else rtK L b i ++ digs 16 (L.getD i 0))
theorem rtK_lo (L : List Nat) (b : Int × Nat) : ∀ i : Nat, (b.1 < 0 ∨ (i : Int) ≤ b.1) → i ≤ L.length → rtK L b i = joinB (L.take i)
  | 0, _, _ => rfl
  | i + 1, hb, hi => by
    have ih := rtK_lo L b i (by omega) (by omega)
    rw [joinB_take L i (by omega)]
    unfold rtK
    rw [if_neg (by omega), ih]
    by_cases h0 : i = 0
    · subst h0
      rw [if_neg (by omega), if_pos rfl]
      rfl
    · rw [if_neg h0, if_pos (by omega)]
      simp
theorem rtK_mid (L : List Nat) (k m : Nat) (hk : k ≤ L.length) : ∀ i : Nat, k < i → i ≤ k + m → rtK L ((k : Int), m) i = joinB (L.take k) ++ [58, 58]
  | 0, h, _ => absurd h (by omega)
  | i + 1, h1, h2 => by
    unfold rtK
    rw [if_pos ⟨by simp, by simp; omega, by simp; omega⟩]
    by_cases he : i = k
    · subst he
      rw [if_pos rfl, rtK_lo L _ i (by simp) hk]
    · rw [if_neg (by simp; omega)]
      exact rtK_mid L k m hk i (by omega) (by omega)
theorem rtK_hi (L : List Nat) (k m : Nat) (hm : 1 ≤ m) : ∀ i : Nat, k + m ≤ i → i ≤ L.length → rtK L ((k : Int), m) i = joinB (L.take k) ++ [58, 58] ++ joinB ((L.drop (k + m)).take (i - (k + m)))
  | 0, h, _ => absurd h (by omega)
  | i + 1, h1, h2 => by
    by_cases he : k + m = i + 1
    · rw [← he, rtK_mid L k m (by omega) (k + m) (by omega) (Nat.le_refl _)]
      simp [joinB_nil]
    · unfold rtK
      rw [if_neg (by simp; omega), rtK_hi L k m hm i (by omega) (by omega)]
      have ht := joinB_take (L.drop (k + m)) (i - (k + m)) (by rw [List.length_drop]; omega)
      have hg : (L.drop (k + m)).getD (i - (k + m)) 0 = L.getD i 0 := by
        rw [List.getD_eq_getElem?_getD, List.getD_eq_getElem?_getD, List.getElem?_drop, show k + m + (i - (k + m)) = i by omega]
      rw [hg] at ht
      rw [show i + 1 - (k + m) = i - (k + m) + 1 by omega, ht]
      by_cases h0 : i - (k + m) = 0
      · rw [if_pos h0, if_neg (by simp; omega), h0]
        simp [joinB_nil]
      · rw [if_neg h0, if_pos (by simp; omega)]
        simp
theorem rtK_text (L : List Nat) (b : Int × Nat) (h : BestP L b) : rtK L b L.length = textOf L b := by
  obtain ⟨a, m⟩ := b
  unfold textOf
  rcases h with ⟨h1, h2⟩ | ⟨h1, h2, h3, h4⟩
  · simp only at h1 h2 ⊢
    rw [if_pos (by omega), rtK_lo L _ _ (.inl (by simp only; omega)) (Nat.le_refl _), List.take_length]
  · simp only at h1 h2 h3 h4 ⊢
    obtain ⟨k, rfl⟩ := Int.eq_ofNat_of_zero_le h1
    rw [if_neg (by omega), rtK_hi L k m (by omega) _ h4 (Nat.le_refl _), Int.toNat_natCast]
    rw [List.take_of_length_le (l := L.drop (k + m)) (by rw [List.length_drop]; exact Nat.le_refl _)]
theorem textF_ref (L : List Nat) : textF L = rtK L (bestF L 0 (-1) 1) L.length := (rtK_text L _ (best_all L).1).symm
end Go.Proofs.YtbgmepfejbbpaaaDoor.Pr
