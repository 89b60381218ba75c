import Derived.Test.YtbgmepfejbbpaaaDoorGwr
import Derived.Test.YtbgmepfejbbpaaaDoorPrA1
import Derived.Test.YtbgmepfejbbpaaaDoorPrA2
import Derived.Test.YtbgmepfejbbpaaaDoorGspl
namespace Go.Proofs.YtbgmepfejbbpaaaDoor.Pr
open Go.RowKit Go.Proofs.YtbgmepfejbbpaaaDoorW.PrintWords Go.Proofs.YtbgmepfejbbpaaaDoorW.PrintLast Go.Proofs.YtbgmepfejbbpaaaDoorW.PrintMore
set_option linter.unusedVariables false
set_option linter.unusedSimpArgs false

/-! ### The reference's digit and piece -/
def hexN (n : Nat) : Int := if 48 ≤ n ∧ n ≤ 57 then (n : Int) - 48 else if 97 ≤ n ∧ n ≤ 102 then (n : Int) - 87 else if 65 ≤ n ∧ n ≤ 70 then (n : Int) - 55 else -1
theorem hexR (n k : Nat) (hn : n < 256) : portcullisref09_Hex.f (k + 2) (n : Int) = some (hexN n) := by
  simp only [portcullisref09_Hex.f, portcullisref09_Hex.j0, portcullisref09_Hex.j1, hexN, decide_eq_true_eq]
  repeat' split
  all_goals first | rfl | omega | (congr 1; omega) | (exfalso; simp_all; done) | (exfalso; simp_all; omega)
theorem hexN_v (c : UInt8) : hexN c.toNat = match hexv c with | none => -1 | some d => (d : Int) := by
  unfold hexN hexv hexi
  generalize c.toNat = n
  by_cases h1 : 48 ≤ n ∧ n ≤ 57
  · rw [if_pos h1, if_neg (by omega), if_pos h1, if_neg (by omega)]
    simp only
    omega
  · rw [if_neg h1, if_neg h1]
    by_cases h2 : 97 ≤ n ∧ n ≤ 102
    · rw [if_pos h2, if_neg (by omega), if_pos h2, if_neg (by omega)]
      simp only
      omega
    · rw [if_neg h2, if_neg h2]
      by_cases h3 : 65 ≤ n ∧ n ≤ 70
      · rw [if_pos h3, if_pos h3]
        simp only
        omega
      · rw [if_neg h3, if_neg h3, if_pos (by decide)]
theorem hexv_lt {c : UInt8} {d : Nat} (h : hexv c = some d) : d < 16 := by
  unfold hexv at h
  split at h
  · cases h; omega
  · split at h
    · cases h
    · have := hexi_bd c
      cases h; omega
def pieceR (o : Option Nat) : Int × Bool := match o with | none => (0, false) | some v => ((v : Int), true)
theorem piece_go (p : List UInt8) (hp : p.length ≤ 4) : ∀ (m i v k : Nat), m + i = p.length → v < 16 ^ i → m + 3 ≤ k → portcullisref11_piece.l0 k (mkB p) (v : Int) (i : Int) = some (pieceR (hexF (p.drop i) v))
  | 0, i, v, k, hm, hv, hk => by
    obtain ⟨k, rfl⟩ : ∃ k', k = k' + 1 := ⟨k - 1, by omega⟩
    have hz := mkB_size p
    simp only [portcullisref11_piece.l0]
    rw [if_neg (by omega), List.drop_eq_nil_of_le (by omega)]
    rfl
  | m + 1, i, v, k, hm, hv, hk => by
    obtain ⟨k, rfl⟩ : ∃ k', k = k' + 1 := ⟨k - 1, by omega⟩
    obtain ⟨k, rfl⟩ : ∃ k', k = k' + 2 := ⟨k - 2, by omega⟩
    have hi : i < p.length := by omega
    have hz := mkB_size p
    simp only [portcullisref11_piece.l0]
    rw [if_pos (by omega), if_pos (by omega), bt_mkB p i hi, hexR _ k (UInt8.toNat_lt _), hexN_v, List.drop_eq_getElem_cons hi]
    simp only [Option.bind_some]
    unfold hexF
    cases hc : hexv p[i] with
    | none =>
      simp only
      rw [if_pos (by decide)]
      rfl
    | some d =>
      have hd := hexv_lt hc
      have h4 : v < 4096 := Nat.lt_of_lt_of_le hv (Nat.pow_le_pow_right (by decide) (show i ≤ 3 by omega))
      simp only
      rw [if_neg (by omega), w64 i (by omega)]
      have e : IntKind.u16.wrap (IntKind.u16.wrap ((v : Int) * 16) + IntKind.u16.wrap (d : Int)) = ((v * 16 + d : Nat) : Int) := by
        rw [IntWalk.u16_in ((v : Int) * 16) (by omega), IntWalk.u16_in (d : Int) (by omega), IntWalk.u16_in _ (by omega)]
        omega
      rw [e]
      exact piece_go p hp m (i + 1) (v * 16 + d) (k + 2) (by omega) (by rw [Nat.pow_succ]; omega) (by omega)
theorem piece_is (p : List UInt8) (k : Nat) (hk : 10 ≤ k) : portcullisref11_piece.f k (mkB p) = some (pieceR (pcF p)) := by
  obtain ⟨k, rfl⟩ : ∃ k', k = k' + 1 := ⟨k - 1, by omega⟩
  have hz := mkB_size p
  simp only [portcullisref11_piece.f, pcF, portcullisref11_piece.j0, decide_eq_true_eq]
  by_cases h1 : p.length < 1
  · rw [if_pos (by omega), if_pos trivial, if_pos (.inl h1)]
    rfl
  · rw [if_neg (by omega)]
    by_cases h4 : 4 < p.length
    · rw [if_pos (by omega), if_pos (.inr h4)]
      rfl
    · rw [if_neg (by omega), if_neg (by omega)]
      have := piece_go p (by omega) p.length 0 0 k (by omega) (by decide) (by omega)
      rw [List.drop_zero] at this
      exact this
end Go.Proofs.YtbgmepfejbbpaaaDoor.Pr
