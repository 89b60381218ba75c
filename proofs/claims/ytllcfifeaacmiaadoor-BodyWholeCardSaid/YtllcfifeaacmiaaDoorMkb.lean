import Derived.Test.YtllcfifeaacmiaaDoorPr0
import Derived.Lib.ConvBytes
import Derived.IntWalk
import Derived.Lib.Hide
namespace Go.Proofs.YtllcfifeaacmiaaDoor.Pr
open Go.RowKit Go.Proofs.YtllcfifeaacmiaaDoorW.PrintWords Go.Proofs.YtllcfifeaacmiaaDoorW.PrintLast Go.Proofs.YtllcfifeaacmiaaDoorW.PrintMore
set_option linter.unusedVariables false
set_option linter.unusedSimpArgs false

/-! ### Strings as lists of bytes; digits -/
def mkB (l : List UInt8) : ByteArray := ⟨l.toArray⟩
theorem mkB_data (s : ByteArray) : mkB s.data.toList = s := by cases s; simp [mkB]
theorem data_mkB (l : List UInt8) : (mkB l).data.toList = l := by simp [mkB]
theorem mkB_size (l : List UInt8) : (mkB l).size = l.length := by rw [← data_length, data_mkB]
theorem mkB_append (l m : List UInt8) : mkB l ++ mkB m = mkB (l ++ m) := by
  rw [← mkB_data (mkB l ++ mkB m)]
  congr 1
theorem mkB_inj {l m : List UInt8} (h : mkB l = mkB m) : l = m := by rw [← data_mkB l, h, data_mkB]
def hexS : List UInt8 := [48, 49, 50, 51, 52, 53, 54, 55, 56, 57, 97, 98, 99, 100, 101, 102]
def hexc (n : Nat) : UInt8 := hexS.getD n 0
def digs (b : Nat) (n : Nat) : List UInt8 := if h : n < b ∨ b < 2 then [hexc n] else digs b (n / b) ++ [hexc (n % b)]
termination_by n
decreasing_by exact Nat.div_lt_self (by omega) (by omega)
theorem digs_small {b n : Nat} (h : n < b) : digs b n = [hexc n] := by rw [digs, dif_pos (.inl h)]
theorem digs_step {b n : Nat} (hb : 2 ≤ b) (h : b ≤ n) : digs b n = digs b (n / b) ++ [hexc (n % b)] := by rw [digs, dif_neg (by omega)]
theorem digs_length (b : Nat) (hb : 2 ≤ b) : ∀ (j n : Nat), n < 2 ^ j → (digs b n).length ≤ j + 1
  | 0, n, h => by
    rw [digs, dif_pos (.inl (by omega))]; simp
  | j + 1, n, h => by
    rw [digs]
    split
    · simp
    · have h2 : n / b ≤ n / 2 := Nat.div_le_div_left hb (by omega)
      have := digs_length b hb j (n / b) (by rw [Nat.pow_succ] at h; omega)
      simp; omega
theorem digs_ne (b n : Nat) : digs b n ≠ [] := by rw [digs]; split <;> simp
end Go.Proofs.YtllcfifeaacmiaaDoor.Pr
