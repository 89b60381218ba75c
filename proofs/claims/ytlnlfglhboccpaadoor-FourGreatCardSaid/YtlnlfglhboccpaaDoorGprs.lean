import Derived.Test.YtlnlfglhboccpaaDoorGpar
namespace Go.Proofs.YtlnlfglhboccpaaDoor.Pr
open Go.RowKit Go.Proofs.YtlnlfglhboccpaaDoorW.PrintWords Go.Proofs.YtlnlfglhboccpaaDoorW.PrintLast Go.Proofs.YtlnlfglhboccpaaDoorW.PrintMore
set_option linter.unusedVariables false
set_option linter.unusedSimpArgs false

/-! ### An address out of its parts -/
def place (n i : Nat) (x : Int) : Int := if i + 1 = n then x else shl .u64 x (8 * (3 - (i : Int)))
def room (n i : Nat) : Int := if i + 1 = n then shl .u64 1 (8 * (5 - (n : Int))) else 256
def stepS (n : Nat) : Nat → List Int → Int → Int
  | _, [], s => s
  | i, x :: l, s => stepS n (i + 1) l (IntKind.u64.wrap (s + place n i x))
def longX (n : Nat) : Nat → List Int → Bool
  | _, [] => false
  | i, x :: l => decide (room n i ≤ x) || longX n (i + 1) l
def parF (l : List (Int × Int)) : Int × Int :=
  if (l.any fun p => p.2 == 8) = true then (0, 8) else if ((l.any fun p => p.2 != 0) || longX l.length 0 (l.map (·.1))) = true then (0, 4) else (stepS l.length 0 (l.map (·.1)) 0 % 4294967296, 0)
def parseB (s : ByteArray) : Int × Int := if 4 < (partsB s).length then (0, 8) else parF ((partsB s).map numF)
theorem fin_e (r : Int × Bool) : (fin r).2 = 0 ∨ (fin r).2 = 4 ∨ (fin r).2 = 8 := by
  unfold fin
  split
  · split
    · exact .inr (.inl rfl)
    · exact .inl rfl
  · exact .inr (.inr rfl)
theorem numF_e (s : ByteArray) : (numF s).2 = 0 ∨ (numF s).2 = 4 ∨ (numF s).2 = 8 := by
  rw [numF_fin]
  split
  · exact .inr (.inr rfl)
  · exact fin_e _
theorem num_some (s : ByteArray) (hs : s.size ≤ 140737488351232) : four_Number.f s = some (numF s) := by unfold four_Number.f; rw [if_pos hs]
theorem rdOf_get (L : List ByteArray) (i : Nat) (h : i < L.length) : rdOf ByteArray.empty L (i : Int) = L[i] := by
  unfold rdOf
  rw [Int.toNat_natCast]
  simp [List.getD, h]
theorem four_l0 (k n : Nat) (hn : n ≤ 4) (L : List ByteArray) (hL : L.length = n) (hz : ∀ x ∈ L, x.size ≤ 140737488351232) : ∀ (d i : Nat) (s : Int) (lg : Bool), i + d = n →
    four_Parse.l0 (k + 1 + d) L (n : Int) s lg (n : Int) (i : Int) = some (if (((L.drop i).map numF).any fun p => p.2 == 8) = true then (0, 8) else if (lg || ((((L.drop i).map numF).any fun p => p.2 != 0) || longX n i (((L.drop i).map numF).map (·.1)))) = true then (0, 4) else (stepS n i (((L.drop i).map numF).map (·.1)) s % 4294967296, 0))
  | 0, i, s, lg, h => by
    rw [show k + 1 + 0 = k + 1 from rfl]
    unfold four_Parse.l0
    rw [if_neg (by omega), List.drop_of_length_le (by omega)]
    simp only [List.map_nil, List.any_nil, longX, stepS, Bool.or_false, Bool.false_eq_true, if_false]
    split <;> rfl
  | d + 1, i, s, lg, h => by
    have hi : i < L.length := by omega
    have hi4 : i < 4 := by omega
    have ih := fun s lg => four_l0 k n hn L hL hz d (i + 1) s lg (by omega)
    have hsz := hz L[i] (List.getElem_mem hi)
    rw [show k + 1 + (d + 1) = (k + 1 + d) + 1 from rfl]
    unfold four_Parse.l0
    rw [if_pos (by omega), if_pos (by omega), if_pos (by omega), rdOf_get L i hi, num_some _ hsz, Option.bind_some, List.drop_eq_getElem_cons hi]
    have he := numF_e L[i]
    simp only [List.map_cons, List.any_cons]
    generalize numF L[i] = p at he ⊢
    obtain ⟨x, e⟩ := p
    dsimp only at he ⊢
    by_cases h8 : e = 8
    · rw [if_pos h8, if_pos (by simp [h8])]
      rw [h8]
    · rw [if_neg h8]
      have e8 : (e == 8) = false := beq_eq_false_iff_ne.2 h8
      rw [e8, Bool.false_or]
      rw [wrap_small (a := (n : Int) - 1) (by omega) (by omega), wrap_small (a := (i : Int) + 1) (by omega) (by omega), wrap_small (a := 5 - (n : Int)) (by omega) (by omega), wrap_small (a := 3 - (i : Int)) (by omega) (by omega), wrap_small (a := 8 * (5 - (n : Int))) (by omega) (by omega), wrap_small (a := 8 * (3 - (i : Int))) (by omega) (by omega)]
      have ih' := fun s lg => ih s lg
      simp only [Int.natCast_add, Int.natCast_one] at ih'
      by_cases hl : i + 1 = n
      · rw [if_pos (by omega), if_pos (by omega)]
        have hp : place n i x = x := by unfold place; rw [if_pos hl]
        have hr : room n i = shl .u64 1 (8 * (5 - (n : Int))) := by unfold room; rw [if_pos hl]
        simp only [stepS, longX, hp, hr]
        cases lg with
        | true =>
          rw [if_pos rfl, ih']
          simp only [Bool.true_or]
        | false =>
          rw [if_neg Bool.false_ne_true]
          by_cases h0 : e = 0
          · rw [if_pos h0, ih']
            have e0 : (e != 0) = false := by rw [bne_eq_false_iff_eq]; exact h0
            simp only [e0, Bool.false_or, ge_iff_le]
            rw [Bool.or_left_comm (decide _) _ _]
          · rw [if_neg h0, ih']
            have e0 : (e != 0) = true := bne_iff_ne.2 h0
            simp only [e0, Bool.true_or, Bool.or_true]
      · rw [if_neg (by omega)]
        have hp : place n i x = shl .u64 x (8 * (3 - (i : Int))) := by unfold place; rw [if_neg hl]
        have hr : room n i = 256 := by unfold room; rw [if_neg hl]
        simp only [stepS, longX, hp, hr]
        cases lg with
        | true =>
          rw [if_pos rfl, if_pos (by omega), ih']
          simp only [Bool.true_or]
        | false =>
          rw [if_neg Bool.false_ne_true]
          by_cases h0 : e = 0
          · rw [if_pos h0, if_pos (by omega), ih']
            have e0 : (e != 0) = false := by rw [bne_eq_false_iff_eq]; exact h0
            simp only [e0, Bool.false_or, ge_iff_le]
            rw [Bool.or_left_comm (decide _) _ _]
          · rw [if_neg h0, if_pos (by omega), ih']
            have e0 : (e != 0) = true := bne_iff_ne.2 h0
            simp only [e0, Bool.true_or, Bool.or_true]
theorem four_parse_eq (s : ByteArray) (hs : s.size ≤ 2147483648) (hz : ∀ x ∈ partsB s, x.size ≤ 140737488351232) (k : Nat) : four_Parse.f (k + 5) s = some (parseB s) := by
  unfold four_Parse.f parseB
  rw [parts_eq s hs, Option.bind_some]
  by_cases h4 : 4 < (partsB s).length
  · rw [if_pos (by omega), if_pos h4]
  · rw [if_neg (by omega), if_neg h4]
    have h := four_l0 (k + (4 - (partsB s).length)) (partsB s).length (by omega) (partsB s) rfl hz (partsB s).length 0 0 false (by omega)
    rw [show k + (4 - (partsB s).length) + 1 + (partsB s).length = k + 5 by omega, List.drop_zero] at h
    refine h.trans ?_
    unfold parF
    rw [List.length_map, Bool.false_or]
theorem ref_l1 (k n : Nat) (hn : n ≤ 4) (xs : List Int) (hL : xs.length = n) : ∀ (d i : Nat) (s : Int) (lg : Bool), i + d = n →
    portcullisref10_Parse.l1 (k + 1 + d) xs lg s (i : Int) = some (if (lg || longX n i (xs.drop i)) = true then (0, 4) else (stepS n i (xs.drop i) s % 4294967296, 0))
  | 0, i, s, lg, h => by
    rw [show k + 1 + 0 = k + 1 from rfl]
    unfold portcullisref10_Parse.l1
    rw [if_neg (by omega), List.drop_of_length_le (by omega)]
    simp only [longX, stepS, Bool.or_false]
    split <;> rfl
  | d + 1, i, s, lg, h => by
    have hi : i < xs.length := by omega
    have hi4 : i < 4 := by omega
    have ih := fun s lg => ref_l1 k n hn xs hL d (i + 1) s lg (by omega)
    simp only [Int.natCast_add, Int.natCast_one] at ih
    have hr : rd xs (i : Int) = xs[i] := by unfold rd; rw [Int.toNat_natCast]; simp [List.getD, hi]
    rw [show k + 1 + (d + 1) = (k + 1 + d) + 1 from rfl]
    unfold portcullisref10_Parse.l1
    rw [if_pos (by omega), List.drop_eq_getElem_cons hi, hr]
    simp only [stepS, longX]
    rw [wrap_small (a := (i : Int) + 1) (by omega) (by omega), hL, wrap_small (a := 5 - (n : Int)) (by omega) (by omega), wrap_small (a := 3 - (i : Int)) (by omega) (by omega), wrap_small (a := 8 * (5 - (n : Int))) (by omega) (by omega), wrap_small (a := 8 * (3 - (i : Int))) (by omega) (by omega)]
    rw [uwrap_small (a := 8 * (5 - (n : Int))) (by omega) (by omega)]
    by_cases hl : i + 1 = n
    · rw [if_neg (by omega)]
      have hp : place n i xs[i] = xs[i] := by unfold place; rw [if_pos hl]
      have hr : room n i = shl .u64 1 (8 * (5 - (n : Int))) := by unfold room; rw [if_pos hl]
      simp only [hp, hr]
      cases lg with
      | true => rw [if_pos rfl, if_pos (by omega), ih]; simp only [Bool.true_or]
      | false => rw [if_neg Bool.false_ne_true, if_pos (by omega), if_pos (by omega), ih]; simp only [Bool.false_or, ge_iff_le]
    · rw [if_pos (by omega)]
      rw [uwrap_small (a := 8 * (3 - (i : Int))) (by omega) (by omega)]
      have hp : place n i xs[i] = shl .u64 xs[i] (8 * (3 - (i : Int))) := by unfold place; rw [if_neg hl]
      have hr : room n i = 256 := by unfold room; rw [if_neg hl]
      simp only [hp, hr]
      cases lg with
      | true => rw [if_pos rfl, if_pos (by omega), if_pos (by omega), ih]; simp only [Bool.true_or]
      | false =>
        rw [if_neg Bool.false_ne_true, if_pos (by omega), if_pos (by omega), ih]
        have e : decide (xs[i] > 255) = decide (256 ≤ xs[i]) := decide_eq_decide.2 (by omega)
        simp only [Bool.false_or, e]
theorem ref_l0 (k n : Nat) (hn : n ≤ 4) (L : List ByteArray) (hL : L.length = n) (hz : ∀ x ∈ L, x.size + 5 ≤ k) (hz2 : ∀ x ∈ L, x.size ≤ 140737488351232) : ∀ (d i : Nat) (acc : List Int) (lg : Bool), i + d = n → acc.length = i →
    portcullisref10_Parse.l0 (k + 1 + d) L acc lg (i : Int) = if (((L.drop i).map numF).any fun p => p.2 == 8) = true then some (0, 8) else portcullisref10_Parse.l1 k (acc ++ ((L.drop i).map numF).map (·.1)) (lg || (((L.drop i).map numF).any fun p => p.2 != 0)) 0 0
  | 0, i, acc, lg, h, hc => by
    rw [show k + 1 + 0 = k + 1 from rfl]
    unfold portcullisref10_Parse.l0
    rw [if_neg (by omega), List.drop_of_length_le (by omega)]
    simp only [List.map_nil, List.any_nil, Bool.or_false, Bool.false_eq_true, if_false, List.append_nil]
  | d + 1, i, acc, lg, h, hc => by
    have hi : i < L.length := by omega
    have hk := hz L[i] (List.getElem_mem hi)
    have hk2 := hz2 L[i] (List.getElem_mem hi)
    have ih := fun acc lg hc => ref_l0 k n hn L hL hz hz2 d (i + 1) acc lg (by omega) hc
    simp only [Int.natCast_add, Int.natCast_one] at ih
    have hN := refNumber_eq L[i] hk2 (k + 1 + d - L[i].size - 5)
    rw [show k + 1 + d - L[i].size - 5 + L[i].size + 5 = k + 1 + d by omega] at hN
    rw [show k + 1 + (d + 1) = (k + 1 + d) + 1 from rfl]
    unfold portcullisref10_Parse.l0
    rw [if_pos (by omega), if_pos (by omega), rdOf_get L i hi, hN, Option.bind_some, List.drop_eq_getElem_cons hi, wrap_small (a := (i : Int) + 1) (by omega) (by omega)]
    have he := numF_e L[i]
    simp only [List.map_cons, List.any_cons]
    generalize numF L[i] = p at he ⊢
    obtain ⟨x, e⟩ := p
    dsimp only at he ⊢
    by_cases h8 : e = 8
    · rw [if_pos h8, if_pos (by simp [h8]), h8]
    · rw [if_neg h8]
      have e8 : (e == 8) = false := beq_eq_false_iff_ne.2 h8
      rw [e8, Bool.false_or]
      cases lg with
      | true =>
        rw [if_pos rfl, if_pos (by omega), ih _ _ (by simp [hc])]
        simp only [Bool.true_or, List.append_assoc, List.singleton_append]
      | false =>
        have e4 : (e == 4) = (e != 0) := by
          rcases he with rfl | rfl | rfl
          · rfl
          · rfl
          · exact absurd rfl h8
        rw [if_neg Bool.false_ne_true, if_pos (by omega), ih _ _ (by simp [hc]), e4]
        simp only [Bool.false_or, List.append_assoc, List.singleton_append]
theorem ref_parse_eq (s : ByteArray) (hs : s.size ≤ 2147483648) (hz : ∀ x ∈ partsB s, x.size ≤ s.size) (k : Nat) : portcullisref10_Parse.f (k + 20 + s.size) s = some (parseB s) := by
  unfold portcullisref10_Parse.f parseB
  have hp := refParts_eq s hs (k + 18)
  rw [show k + 18 + 2 + s.size = k + 20 + s.size by omega] at hp
  rw [hp, Option.bind_some]
  by_cases h4 : 4 < (partsB s).length
  · rw [if_pos (by omega), if_pos h4]
  · rw [if_neg (by omega), if_neg h4]
    have h := ref_l0 (k + 19 + s.size - (partsB s).length) (partsB s).length (by omega) (partsB s) rfl (fun x hx => by have := hz x hx; omega) (fun x hx => by have := hz x hx; omega) (partsB s).length 0 [] false (by omega) rfl
    rw [show k + 19 + s.size - (partsB s).length + 1 + (partsB s).length = k + 20 + s.size by omega, List.drop_zero] at h
    refine h.trans ?_
    unfold parF
    split
    · rfl
    · have h1 := ref_l1 (k + 18 + s.size - (partsB s).length - (partsB s).length) (partsB s).length (by omega) (((partsB s).map numF).map (·.1)) (by simp) (partsB s).length 0 0 (false || (((partsB s).map numF).any fun p => p.2 != 0)) (by omega)
      rw [show k + 18 + s.size - (partsB s).length - (partsB s).length + 1 + (partsB s).length = k + 19 + s.size - (partsB s).length by omega, List.drop_zero] at h1
      refine h1.trans ?_
      rw [Bool.false_or, List.length_map]
end Go.Proofs.YtlnlfglhboccpaaDoor.Pr
