import Derived.Test.YtbgmepfejbbpaaaDoorGwr
namespace Go.Proofs.YtbgmepfejbbpaaaDoor.Pr
open Go.RowKit Go.Proofs.YtbgmepfejbbpaaaDoorW.PrintWords Go.Proofs.YtbgmepfejbbpaaaDoorW.PrintLast Go.Proofs.YtbgmepfejbbpaaaDoorW.PrintMore
set_option linter.unusedVariables false
set_option linter.unusedSimpArgs false

/-! ### Pieces with two colons ahead of one of them -/
def ptK (W : Nat → List UInt8) (L : List Nat) (g : Nat) (has : Bool) : Nat → List UInt8
  | 0 => []
  | i + 1 => (if has = true ∧ i = g then ptK W L g has i ++ [58, 58] else if 0 < i then ptK W L g has i ++ [58] else ptK W L g has i) ++ W (L.getD i 0)
def ptF (W : Nat → List UInt8) (L : List Nat) (g : Nat) (has : Bool) : List UInt8 := if has = true ∧ g = L.length then ptK W L g has L.length ++ [58, 58] else ptK W L g has L.length
theorem joinP_take (W : Nat → List UInt8) (L : List Nat) (i : Nat) (hi : i < L.length) : joinP ((L.take (i + 1)).map W) = if i = 0 then W (L.getD i 0) else joinP ((L.take i).map W) ++ 58 :: W (L.getD i 0) := by
  have e : L.getD i 0 = L[i] := by simp [List.getD, hi]
  rw [List.take_succ_eq_append_getElem hi, List.map_append, List.map_singleton, joinP_snoc, e]
  by_cases h0 : i = 0
  · subst h0; rw [if_pos rfl, if_pos (by simp)]
  · rw [if_neg h0, if_neg (fun e => by
      have := congrArg List.length e
      rw [List.length_map, List.length_take] at this
      simp only [List.length_nil] at this
      omega)]
theorem ptK_lo (W : Nat → List UInt8) (L : List Nat) (g : Nat) (has : Bool) : ∀ i : Nat, (has = false ∨ i ≤ g) → i ≤ L.length → ptK W L g has i = joinP ((L.take i).map W)
  | 0, _, _ => rfl
  | i + 1, hb, hi => by
    have ih := ptK_lo W L g has i (hb.imp_right fun h => by omega) (by omega)
    rw [joinP_take W L i (by omega)]
    unfold ptK
    rw [if_neg (by
      rintro ⟨h1, h2⟩
      rcases hb with h | h
      · rw [h] at h1; cases h1
      · omega), ih]
    by_cases h0 : i = 0
    · subst h0; rw [if_neg (by omega), if_pos rfl]; rfl
    · rw [if_neg h0, if_pos (by omega)]; simp
theorem ptK_hi (W : Nat → List UInt8) (L : List Nat) (g : Nat) : ∀ i : Nat, g < i → i ≤ L.length → ptK W L g true i = joinP ((L.take g).map W) ++ 58 :: 58 :: joinP (((L.drop g).take (i - g)).map W)
  | 0, h, _ => absurd h (by omega)
  | i + 1, hg, hi => by
    have ht := joinP_take W (L.drop g) (i - g) (by rw [List.length_drop]; omega)
    have hgd : (L.drop g).getD (i - g) 0 = L.getD i 0 := by
      rw [List.getD_eq_getElem?_getD, List.getD_eq_getElem?_getD, List.getElem?_drop, show g + (i - g) = i by omega]
    rw [hgd] at ht
    rw [show i + 1 - g = i - g + 1 by omega, ht]
    unfold ptK
    by_cases he : i = g
    · subst he
      rw [if_pos ⟨rfl, rfl⟩, if_pos (by omega), ptK_lo W L i true i (.inr (Nat.le_refl _)) (by omega)]
      simp
    · rw [if_neg (fun e => he e.2), if_pos (by omega), if_neg (by omega), ptK_hi W L g i (by omega) (by omega)]
      simp
theorem ptF_no (W : Nat → List UInt8) (L : List Nat) (g : Nat) : ptF W L g false = joinP (L.map W) := by
  unfold ptF
  rw [if_neg (by simp), ptK_lo W L g false _ (.inl rfl) (Nat.le_refl _), List.take_length]
theorem ptF_yes (W : Nat → List UInt8) (L : List Nat) (g : Nat) (hg : g ≤ L.length) : ptF W L g true = joinP ((L.take g).map W) ++ 58 :: 58 :: joinP ((L.drop g).map W) := by
  unfold ptF
  by_cases h : g = L.length
  · subst h
    rw [if_pos ⟨rfl, rfl⟩, ptK_lo W L _ true _ (.inr (Nat.le_refl _)) (Nat.le_refl _), List.drop_length]
    rfl
  · rw [if_neg (fun e => h e.2), ptK_hi W L g _ (by omega) (Nat.le_refl _)]
    rw [List.take_of_length_le (l := L.drop g) (by rw [List.length_drop]; exact Nat.le_refl _)]
def gapL (L : List Nat) (g : Nat) : List Nat := L.take g ++ List.replicate (8 - L.length) 0 ++ L.drop g
theorem pieces_no {W : Nat → List UInt8} {L : List Nat} (g : Nat) (hW : ∀ x ∈ L, Wrt W x) : sixA (ptF W L g false) = if L.length = 8 then some L else none := by
  rw [sixA_ref, ptF_no, refA_join _ L (okp_map hW) (piL_map true L hW)]
theorem pieces_yes {W : Nat → List UInt8} {L : List Nat} (g : Nat) (hg : g ≤ L.length) (hW : ∀ x ∈ L, Wrt W x) : sixA (ptF W L g true) = if 7 < L.length then none else some (gapL L g) := by
  have w1 : ∀ x ∈ L.take g, Wrt W x := fun x hx => hW x (List.mem_of_mem_take hx)
  have w2 : ∀ x ∈ L.drop g, Wrt W x := fun x hx => hW x (List.mem_of_mem_drop hx)
  have e := refA_gap _ _ _ _ (okp_map w1) (okp_map w2) (piL_map false _ w1) (piL_map true _ w2)
  have hl : (L.take g).length + (L.drop g).length = L.length := by rw [List.length_take, List.length_drop]; omega
  rw [hl] at e
  rw [sixA_ref, ptF_yes W L g hg, e]
  rfl
theorem gapL_at (L : List Nat) (g i : Nat) (hg : g ≤ L.length) (h8 : L.length ≤ 7) (hi : i < L.length) : pad8 (gapL L g) (if g ≤ i then 8 - L.length + i else i) = L.getD i 0 := by
  unfold pad8 gapL
  have l1 : (L.take g).length = g := by rw [List.length_take]; omega
  rw [List.getD_eq_getElem?_getD, List.getD_eq_getElem?_getD, List.append_assoc, List.getElem?_append, l1]
  by_cases h : g ≤ i
  · rw [if_pos h, if_neg (by omega), List.getElem?_append, List.length_replicate, if_neg (by omega), List.getElem?_drop]
    congr 2
    omega
  · rw [if_neg h, if_pos (by omega), List.getElem?_take, if_pos (by omega)]
theorem ptK_len {W : Nat → List UInt8} {L : List Nat} (g : Nat) (has : Bool) (hW : ∀ x, x ∈ L → (W x).length ≤ 4) (h0 : (W 0).length ≤ 4) : ∀ i, (ptK W L g has i).length ≤ 6 * i
  | 0 => Nat.le_refl _
  | i + 1 => by
    have ih := ptK_len g has hW h0 i
    have hx : (W (L.getD i 0)).length ≤ 4 := by
      rw [List.getD_eq_getElem?_getD]
      cases h : L[i]? with
      | none => exact h0
      | some x => exact hW x (List.mem_of_getElem? h)
    unfold ptK
    split
    · simp only [List.length_append, List.length_cons, List.length_nil]; omega
    · split
      · simp only [List.length_append, List.length_cons, List.length_nil]; omega
      · simp only [List.length_append]; omega
end Go.Proofs.YtbgmepfejbbpaaaDoor.Pr
