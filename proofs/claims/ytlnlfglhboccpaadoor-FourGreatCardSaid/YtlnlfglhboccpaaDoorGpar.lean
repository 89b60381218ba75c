import Derived.Test.YtlnlfglhboccpaaDoorGnum
import Derived.Test.YtlnlfglhboccpaaDoorPrB1
namespace Go.Proofs.YtlnlfglhboccpaaDoor.Pr
open Go.RowKit Go.Proofs.YtlnlfglhboccpaaDoorW.PrintWords Go.Proofs.YtlnlfglhboccpaaDoorW.PrintLast Go.Proofs.YtlnlfglhboccpaaDoorW.PrintMore
set_option linter.unusedVariables false
set_option linter.unusedSimpArgs false

/-! ### The parts of a text -/
def lastB (L : List ByteArray) : ByteArray := L.getD (L.length - 1) ByteArray.empty
def finB (L : List ByteArray) : List ByteArray := if 1 < L.length ∧ (lastB L).size = 0 then L.take (L.length - 1) else L
def finE (L : List ByteArray) : Option (List ByteArray) := if (L.length : Int) > 1 then (if 0 ≤ (wrap64 ((L.length : Int) - 1)) then (if (wrap64 ((L.length : Int) - 1)) < (L.length : Int) then (if (rdOf ByteArray.empty L (wrap64 ((L.length : Int) - 1))).toList = ([] : List UInt8) then (if (wrap64 ((L.length : Int) - 1)) ≤ (L.length : Int) then (some (L.take ((wrap64 ((L.length : Int) - 1)) : Int).toNat)) else (none)) else (some L)) else (none)) else (none)) else (some L)
theorem finE_eq (L : List ByteArray) (h : L.length ≤ 4611686018427387904) : finE L = some (finB L) := by
  unfold finE finB
  by_cases h1 : 1 < L.length
  · rw [if_pos (by omega), wrap_small (by omega) (by omega), if_pos (by omega), if_pos (by omega)]
    have e : rdOf ByteArray.empty L ((L.length : Int) - 1) = lastB L := by
      unfold rdOf lastB
      rw [show ((L.length : Int) - 1).toNat = L.length - 1 by omega]
    rw [e]
    by_cases h2 : (lastB L).size = 0
    · rw [if_pos ((toList_nil _).2 h2), if_pos (by omega), if_pos ⟨h1, h2⟩, show ((L.length : Int) - 1).toNat = L.length - 1 by omega]
    · rw [if_neg (fun e => h2 ((toList_nil _).1 e)), if_neg (fun e => h2 e.2)]
  · rw [if_neg (by omega), if_neg (fun e => h1 e.1)]
def partsB (s : ByteArray) : List ByteArray := finB ((pcs 46 s.data.toList).map mkB)
theorem pcsB_length (s : ByteArray) : ((pcs 46 s.data.toList).map mkB).length ≤ s.size + 1 := by
  have := pcs_length_le 46 s.data.toList
  rw [data_length] at this
  simpa using this
theorem parts_eq (s : ByteArray) (hs : s.size ≤ 2147483648) : four_parts.f s = some (partsB s) := by
  unfold four_parts.f strings_Split.f
  rw [if_pos ⟨rfl, hs⟩, Option.bind_some]
  exact finE_eq _ (by have := pcsB_length s; omega)
def pend (u : List UInt8) (L : List (List UInt8)) : List (List UInt8) := (u ++ L.headD []) :: L.tail
theorem pend_nil {L : List (List UInt8)} (h : L ≠ []) : pend [] L = L := by
  cases L with
  | nil => exact absurd rfl h
  | cons a l => rfl
theorem pend_pend (u : List UInt8) (b : UInt8) (L : List (List UInt8)) : pend u (pend [b] L) = pend (u ++ [b]) L := by simp [pend]
theorem pcs_hit (l : List UInt8) : pcs 46 (46 :: l) = [] :: pcs 46 l := by simp [pcs]
theorem pcs_miss (b : UInt8) (l : List UInt8) (h : b ≠ 46) : pcs 46 (b :: l) = pend [b] (pcs 46 l) := by simp [pcs, h, pend]
theorem ext_list (s : ByteArray) (a b : Nat) : (s.extract a b).data.toList = (s.data.toList.take b).drop a := by
  simp [ByteArray.data_extract, List.drop_take]
theorem mkB_ext (s : ByteArray) (a b : Nat) : s.extract a b = mkB ((s.data.toList.take b).drop a) := by rw [← ext_list, mkB_data]
theorem refParts_l0 (k : Nat) (s : ByteArray) (hs : s.size ≤ 2147483648) : ∀ (d i fr : Nat) (L : List (List UInt8)), i + d = s.size → fr ≤ i → L.length ≤ i →
    portcullisref10_Parts.l0 (k + 2 + d) s (L.map mkB) (fr : Int) (i : Int) = some (finB ((L ++ pend ((s.data.toList.take i).drop fr) (pcs 46 (s.data.toList.drop i))).map mkB))
  | 0, i, fr, L, h, h1, h2 => by
    have hi : i = s.size := by omega
    subst hi
    rw [show k + 2 + 0 = (k + 1) + 1 from rfl]
    unfold portcullisref10_Parts.l0
    rw [if_pos (by omega), if_pos rfl, if_pos (by omega), if_pos (by omega), if_pos (by simp; omega), wrap_small (by omega) (by omega)]
    unfold portcullisref10_Parts.l0
    rw [if_neg (by omega), show List.drop s.size s.data.toList = [] from List.drop_of_length_le (by rw [data_length]; omega)]
    have e : List.map mkB L ++ [s.extract (fr : Int).toNat (s.size : Int).toNat] = (L ++ pend ((s.data.toList.take s.size).drop fr) (pcs 46 [])).map mkB := by
      simp [pend, pcs, mkB_ext]
    rw [e]
    exact finE_eq _ (by simp [pend, pcs]; omega)
  | d + 1, i, fr, L, h, h1, h2 => by
    have hi : i < s.size := by omega
    have hil : i < s.data.toList.length := by rw [data_length]; exact hi
    have hc : s.data.toList[i] = s[i] := rfl
    rw [show k + 2 + (d + 1) = (k + 2 + d) + 1 from rfl]
    unfold portcullisref10_Parts.l0
    rw [if_pos (by omega), if_neg (by omega), if_pos (by omega), if_pos (by omega), bt_lt s i hi, wrap_small (by omega) (by omega), List.drop_eq_getElem_cons hil, hc]
    by_cases h46 : s[i] = 46
    · rw [if_pos (by rw [h46]; rfl), if_pos (by omega), if_pos (by omega), if_pos (by simp; omega), h46, pcs_hit]
      have ih := refParts_l0 k s hs d (i + 1) (i + 1) (L ++ [(s.data.toList.take i).drop fr]) (by omega) (by omega) (by simp; omega)
      have e : List.map mkB L ++ [s.extract (fr : Int).toNat (i : Int).toNat] = (L ++ [(s.data.toList.take i).drop fr]).map mkB := by simp [mkB_ext]
      rw [e]
      refine ih.trans ?_
      rw [show (s.data.toList.take (i + 1)).drop (i + 1) = [] from List.drop_of_length_le (by simp; omega), pend_nil (pcs_ne _ _)]
      simp [pend]
    · rw [if_neg (fun e => h46 ((byte_is _ 46 (by decide)).1 (by rw [e]; rfl))), pcs_miss _ _ h46, pend_pend]
      have ih := refParts_l0 k s hs d (i + 1) fr L (by omega) (by omega) (by omega)
      refine ih.trans ?_
      rw [List.take_succ_eq_append_getElem hil, hc, List.drop_append_of_le_length (by simp; omega)]
theorem refParts_eq (s : ByteArray) (hs : s.size ≤ 2147483648) (k : Nat) : portcullisref10_Parts.f (k + 2 + s.size) s = some (partsB s) := by
  have h := refParts_l0 k s hs s.size 0 0 [] (by omega) (by omega) (by simp)
  rw [show (s.data.toList.take 0).drop 0 = [] by simp, pend_nil (pcs_ne _ _), List.drop_zero] at h
  exact h
end Go.Proofs.YtlnlfglhboccpaaDoor.Pr
