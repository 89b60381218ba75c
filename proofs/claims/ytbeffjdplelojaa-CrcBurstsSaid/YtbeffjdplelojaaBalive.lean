import Derived.Test.YtbeffjdplelojaaPrB1
import Derived.Test.YtbeffjdplelojaaBframe
namespace Go.Proofs.Ytbeffjdplelojaa.Pr
open Go.RowKit Go.Proofs.YtbeffjdplelojaaW.PrintWords Go.Proofs.YtbeffjdplelojaaW.PrintLast Go.Proofs.YtbeffjdplelojaaW.PrintMore
set_option linter.unusedVariables false
set_option linter.unusedSimpArgs false

theorem bl_lit (l : List UInt8) : bl ⟨l.toArray⟩ = l.map UInt8.toNat := bl_mk l
theorem alive_is (k : Nat) (hk : 100 ≤ k) : portcullislaw22_alive.f k = some true := by
  have a1 := of_nat (⟨#[49, 50, 51, 52]⟩ : ByteArray) (by decide) k (by have : (⟨#[49, 50, 51, 52]⟩ : ByteArray).size = 4 := rfl; omega)
  have a2 := of_nat (⟨#[53, 54, 55, 56, 57]⟩ : ByteArray) (by decide) k (by have : (⟨#[53, 54, 55, 56, 57]⟩ : ByteArray).size = 5 := rfl; omega)
  have a3 := of_nat (⟨#[]⟩ : ByteArray) (by decide) k (by have : (⟨#[]⟩ : ByteArray).size = 0 := rfl; omega)
  have a4 := of_nat (⟨#[49, 50, 51, 52, 53, 54, 55, 56, 57]⟩ : ByteArray) (by decide) k (by have : (⟨#[49, 50, 51, 52, 53, 54, 55, 56, 57]⟩ : ByteArray).size = 9 := rfl; omega)
  have b1 : bl (⟨#[49, 50, 51, 52]⟩ : ByteArray) = [49, 50, 51, 52] := rfl
  have b2 : bl (⟨#[53, 54, 55, 56, 57]⟩ : ByteArray) = [53, 54, 55, 56, 57] := rfl
  have b3 : bl (⟨#[]⟩ : ByteArray) = [] := rfl
  have b4 : bl (⟨#[49, 50, 51, 52, 53, 54, 55, 56, 57]⟩ : ByteArray) = [49, 50, 51, 52, 53, 54, 55, 56, 57] := rfl
  rw [b1] at a1
  rw [b2] at a2
  rw [b3] at a3
  rw [b4] at a4
  have n4 : moreN 0 [49, 50, 51, 52, 53, 54, 55, 56, 57] = 3421780262 := by decide +kernel
  have n3 : moreN 0 [] = 0 := by decide +kernel
  have lt1 : ∀ c ∈ [49, 50, 51, 52], c < 256 := by decide
  have lt2 : ∀ c ∈ [53, 54, 55, 56, 57], c < 256 := by decide
  have j := joined_nat (moreN 0 [49, 50, 51, 52]) (moreN 0 [53, 54, 55, 56, 57]) [53, 54, 55, 56, 57].length (moreN_lt _ _ (by omega) lt1) (moreN_lt _ _ (by omega) lt2) (by decide)
  have hj := joinN [49, 50, 51, 52] [53, 54, 55, 56, 57]
  have ha : [49, 50, 51, 52] ++ [53, 54, 55, 56, 57] = [49, 50, 51, 52, 53, 54, 55, 56, 57] := rfl
  rw [ha] at hj
  have j' := j.trans (congrArg (fun x : Nat => some (((x : Nat) : Int), (0 : Int))) (hj.trans n4))
  have h5 : (([53, 54, 55, 56, 57].length : Nat) : Int) = 5 := rfl
  rw [h5] at j'
  clear j hj
  have z1 : (⟨#[97]⟩ : ByteArray).size = 1 := rfl
  have f : crc_Frame.f (⟨#[97]⟩ : ByteArray) = some (strOfNums (frameL (⟨#[97]⟩ : ByteArray)), 0) := by
    unfold crc_Frame.f
    rw [if_neg (by omega)]
  have zf : (strOfNums (frameL (⟨#[97]⟩ : ByteArray))).size = 9 := by
    rw [size_bl (frame_bl _ (by omega))]
    rfl
  have zx : (⟨#[120, 121, 122]⟩ : ByteArray).size = 3 := rfl
  have zc : (strOfNums (frameL (⟨#[97]⟩ : ByteArray)) ++ (⟨#[120, 121, 122]⟩ : ByteArray)).size = 12 := by rw [size_bl (bl_append _ _), List.length_append, bl_length, bl_length, zf, zx]
  have c1 := cut_is (strOfNums (frameL (⟨#[97]⟩ : ByteArray)) ++ (⟨#[120, 121, 122]⟩ : ByteArray)) (by omega) k (by omega)
  rw [cut_frame _ _ (by omega)] at c1
  have z7 : (⟨#[49, 50, 51, 52, 53, 54, 55]⟩ : ByteArray).size = 7 := rfl
  have c2 := cut_is (⟨#[49, 50, 51, 52, 53, 54, 55]⟩ : ByteArray) (by omega) k (by omega)
  have r7 : cutR (⟨#[49, 50, 51, 52, 53, 54, 55]⟩ : ByteArray) = (noB, noB, 7) := by
    unfold cutR
    rw [if_pos (by omega)]
  rw [r7] at c2
  have t1 : (⟨#[97]⟩ : ByteArray).toList = ([97] : List UInt8) := by rw [Lib.toList_data]
  have t2 : (⟨#[120, 121, 122]⟩ : ByteArray).toList = ([120, 121, 122] : List UInt8) := by rw [Lib.toList_data]
  unfold portcullislaw22_alive.f
  rw [a1, a2, a3, a4, f, n3, n4]
  simp only [Option.bind_some]
  rw [j']
  simp only [Option.bind_some]
  rw [if_pos (by omega), c1]
  simp only [Option.bind_some]
  rw [c2]
  simp only [Option.bind_some]
  rw [if_pos (by omega), if_pos (by omega), if_pos (by omega), if_pos trivial, if_pos (by omega), if_pos trivial, if_pos t1, if_pos t2, if_pos trivial]
  rfl
end Go.Proofs.Ytbeffjdplelojaa.Pr
