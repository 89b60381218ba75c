import Derived.Test.YtllcfifeaacmiaaDoorRx
namespace Go.Proofs.YtllcfifeaacmiaaDoor.Pr
open Go.RowKit Go.Proofs.YtllcfifeaacmiaaDoorW.PrintWords Go.Proofs.YtllcfifeaacmiaaDoorW.PrintLast Go.Proofs.YtllcfifeaacmiaaDoorW.PrintMore
set_option linter.unusedVariables false
set_option linter.unusedSimpArgs false

/-! ### head.Field -/
theorem trim_any (s : ByteArray) (hs : s.size ≤ 1000000000) (w : World) : Calls Tryd.prog 55 #[.string s, .string ⟨#[32, 9]⟩] w fun e w' => (∃ r : ByteArray, e = .returned (.string r)) ∧ Below w.heap.size w w' :=
  (Any.strings_Trim_ascii Tryd.lays160 (fun w => by kernel_rfl) (by kernel_rfl) s ⟨#[32, 9]⟩ w (by omega) (by decide) (fun j b hb => by
    have hm : b ∈ [(32 : UInt8), 9] := List.mem_of_getElem? hb
    simp at hm
    rcases hm with rfl | rfl <;> decide)).mono fun e w' h => ⟨⟨_, h.1⟩, h.2⟩
theorem lower_any (s : ByteArray) (hs : s.size ≤ 1000000000) (ht : tokL s.data.toList = true) (w : World) : Calls Tryd.prog 54 #[.string s] w fun e w' => (∃ r : ByteArray, e = .returned (.string r)) ∧ Below w.heap.size w w' :=
  (Tryd.strings_ToLower_ascii s w (by omega) (fun j b hb => by
    have h1 : s.data.toList.all (sgl.contains ·) = true := by
      unfold tokL at ht
      exact (Bool.and_eq_true_iff.1 ht).1
    have h2 : sgl.contains b = true := List.all_eq_true.1 h1 b (List.mem_of_getElem? hb)
    have h3 : sgl.all (fun b => decide (b.toNat < 128)) = true := by decide
    exact of_decide_eq_true (List.all_eq_true.1 h3 b (List.contains_iff_mem.1 h2)))).mono fun e w' h => ⟨⟨_, h.1⟩, h.2⟩
end Go.Proofs.YtllcfifeaacmiaaDoor.Pr
