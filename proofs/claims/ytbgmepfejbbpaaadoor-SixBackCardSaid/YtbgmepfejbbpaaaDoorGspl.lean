import Derived.Test.YtbgmepfejbbpaaaDoorSpl
import Derived.Test.YtbgmepfejbbpaaaDoorJfu
import Derived.Test.YtbgmepfejbbpaaaDoorPrA1
namespace Go.Proofs.YtbgmepfejbbpaaaDoor.Pr
open Go.RowKit Go.Proofs.YtbgmepfejbbpaaaDoorW.PrintWords Go.Proofs.YtbgmepfejbbpaaaDoorW.PrintLast Go.Proofs.YtbgmepfejbbpaaaDoorW.PrintMore
set_option linter.unusedVariables false
set_option linter.unusedSimpArgs false

/-! ### The reference's split -/
theorem bt_mkB (s : List UInt8) (i : Nat) (hi : i < s.length) : bt (mkB s) (i : Int) = (s[i].toNat : Int) := by
  have hz : i < (mkB s).size := by rw [mkB_size]; exact hi
  have := bt_at (mkB s) (i : Int) hz
  rw [← this]
  have h2 := Lib.data_getElem? (mkB s) i hz
  rw [data_mkB, List.getElem?_eq_getElem hi] at h2
  have h3 : (mkB s)[i]'hz = s[i] := (Option.some.inj h2).symm
  exact congrArg (fun c : UInt8 => (c.toNat : Int)) h3
theorem ext_mkB (s : List UInt8) (a b : Nat) : (mkB s).extract a b = mkB ((s.drop a).take (b - a)) := by
  rw [← mkB_data ((mkB s).extract a b)]
  congr 1
  rw [ByteArray.data_extract, Array.toList_extract, data_mkB, List.extract_eq_take_drop]
def glue (pre : List UInt8) (L : List (List UInt8)) : List (List UInt8) := (pre ++ L.headD []) :: L.tail
theorem w64 (i : Nat) (h : i ≤ 2147483648) : wrap64 ((i : Int) + 1) = ((i + 1 : Nat) : Int) := by
  rw [IntWalk.wrap64_in _ (by omega)]; omega
theorem split_go (s : List UInt8) (c : UInt8) (hs : s.length ≤ 2147483648) : ∀ (m i from_ k : Nat) (acc : List ByteArray), m + i = s.length → from_ ≤ i → m + 1 ≤ k → acc.length ≤ i →
    portcullisref11_split.l0 (k + 1) (mkB s) (c.toNat : Int) acc (from_ : Int) (i : Int) = some (acc ++ (glue ((s.drop from_).take (i - from_)) (pcs c (s.drop i))).map mkB)
  | 0, i, from_, k, acc, hm, hf, hk, ha => by
    obtain rfl : i = s.length := by omega
    obtain ⟨k, rfl⟩ : ∃ k', k = k' + 1 := ⟨k - 1, by omega⟩
    unfold portcullisref11_split.l0
    have hz := mkB_size s
    rw [if_pos (by omega), if_pos (by omega), if_pos (by omega), if_pos (by omega), if_pos (by omega), w64 _ hs]
    unfold portcullisref11_split.l0
    rw [if_neg (by omega), Int.toNat_natCast, Int.toNat_natCast, ext_mkB, List.drop_length]
    simp [glue, pcs]
  | m + 1, i, from_, k, acc, hm, hf, hk, ha => by
    obtain ⟨k, rfl⟩ : ∃ k', k = k' + 1 := ⟨k - 1, by omega⟩
    have hi : i < s.length := by omega
    unfold portcullisref11_split.l0
    have hz := mkB_size s
    rw [if_pos (by omega), if_neg (by omega), if_pos (by omega), if_pos (by omega), bt_mkB s i hi, w64 _ (by omega)]
    have hd : s.drop i = s[i] :: s.drop (i + 1) := List.drop_eq_getElem_cons hi
    by_cases hc : s[i] = c
    · rw [if_pos (by rw [hc]), if_pos (by omega), if_pos (by omega), if_pos (by omega), Int.toNat_natCast, Int.toNat_natCast, ext_mkB]
      rw [split_go s c hs m (i + 1) (i + 1) k _ (by omega) (Nat.le_refl _) (by omega) (by simp; omega)]
      rw [hd, hc]
      have hp : pcs c (c :: s.drop (i + 1)) = [] :: pcs c (s.drop (i + 1)) := by conv => lhs; unfold pcs; rw [if_pos rfl]
      rw [hp]
      have hne := pcs_ne c (s.drop (i + 1))
      cases hq : pcs c (s.drop (i + 1)) with
      | nil => exact absurd hq hne
      | cons q t => simp [glue]
    · rw [if_neg (by intro e; exact hc (UInt8.toNat_inj.1 (by omega)))]
      rw [split_go s c hs m (i + 1) from_ k acc (by omega) (by omega) (by omega) (by omega)]
      rw [hd]
      have hp : pcs c (s[i] :: s.drop (i + 1)) = (s[i] :: (pcs c (s.drop (i + 1))).headD []) :: (pcs c (s.drop (i + 1))).tail := by conv => lhs; unfold pcs; rw [if_neg hc]
      rw [hp]
      have ht : (s.drop from_).take (i + 1 - from_) = (s.drop from_).take (i - from_) ++ [s[i]] := by
        rw [show i + 1 - from_ = (i - from_) + 1 by omega, List.take_add_one]
        congr 1
        rw [List.getElem?_drop, show from_ + (i - from_) = i by omega, List.getElem?_eq_getElem hi]
        rfl
      rw [ht]
      simp [glue]
theorem split_is (s : List UInt8) (c : UInt8) (k : Nat) (hs : s.length ≤ 2147483648) (hk : s.length + 2 ≤ k) : portcullisref11_split.f k (mkB s) (c.toNat : Int) = some ((pcs c s).map mkB) := by
  obtain ⟨k, rfl⟩ : ∃ k', k = k' + 1 := ⟨k - 1, by omega⟩
  have h := split_go s c hs s.length 0 0 k [] (by omega) (Nat.le_refl _) (by omega) (Nat.le_refl _)
  unfold portcullisref11_split.f
  refine Eq.trans h ?_
  have hne := pcs_ne c s
  rw [List.drop_zero]
  cases hq : pcs c s with
  | nil => exact absurd hq hne
  | cons q t => simp [glue]
/-- A row of strings that a call made: its cells. -/
theorem row_cells {e base : Nat} {ok : Nat → Prop} {w : World} {v : Value} {L : List (List UInt8)} (h : Kd.R Kd.string e w base ok v (L.map mkB)) (hn : 0 < L.length) :
    ∃ b o c, v = .slice (some ⟨b, o, none⟩) L.length c ∧ L.length ≤ c ∧ b < w.heap.size ∧ ∀ (i : Nat) p, L[i]? = some p → w.cell? ⟨b, o + i, none⟩ = some (.string (mkB p)) := by
  obtain ⟨A, c, rfl, hc, hr⟩ := Kd.R_reads h
  rw [List.length_map] at hc hr
  obtain ⟨ad, rfl, hx⟩ := Kd.at_string hr 0 (by omega) (by omega)
  obtain ⟨hs, hlt⟩ := cell_spot hx
  have hs2 : ad = ⟨ad.block, ad.off, none⟩ := hs
  refine ⟨ad.block, ad.off, c, by rw [List.length_map, ← hs2], hc, hlt, fun i p hp => ?_⟩
  have hj : i < L.length := (List.getElem?_eq_some_iff.1 hp).1
  obtain ⟨ad', e', hx'⟩ := Kd.at_string hr (i : Int) (by omega) (by omega)
  cases e'
  rw [hs2, Int.toNat_natCast, addr_add] at hx'
  rw [hx']
  simp [rdOf, List.getD_eq_getElem?_getD, hp]
end Go.Proofs.YtbgmepfejbbpaaaDoor.Pr
