import Derived.Test.YtllcfifeaacmiaaDoorRw
import Derived.Lib.CutLaws
import Derived.Shelf.RegionOpen
namespace Go.Proofs.YtllcfifeaacmiaaDoor.Pr
open Go.RowKit Go.Proofs.YtllcfifeaacmiaaDoorW.PrintWords Go.Proofs.YtllcfifeaacmiaaDoorW.PrintLast Go.Proofs.YtllcfifeaacmiaaDoorW.PrintMore
set_option linter.unusedVariables false
set_option linter.unusedSimpArgs false

/-! ### strings.Cut at ':' -/
theorem idx58 (t : List UInt8) : Lib.index t [58] = Lib.indexByte t 58 := by
  induction t with
  | nil => rfl
  | cons b l ih =>
    unfold Lib.index Lib.indexByte
    rw [ih]
    by_cases h : b = 58
    · subst h; simp
    · simp [h, Ne.symm h]
theorem sep58 : (⟨#[58]⟩ : ByteArray).data.toList = [58] := rfl
def cutV (s : ByteArray) : Ending := .returned (.tuple #[.string ⟨(Lib.cut s.data.toList [58]).1.toArray⟩, .string ⟨(Lib.cut s.data.toList [58]).2.1.toArray⟩, .bool (Lib.cut s.data.toList [58]).2.2])
set_option maxHeartbeats 1000000 in
theorem cut_in (s : ByteArray) (hs : s.size ≤ 1000000000) (w : World) : Calls Tryd.prog 57 #[.string s, .string ⟨#[58]⟩] w fun e w' => e = cutV s ∧ Below w.heap.size w w' := by
  have HI := Aside0.mk (fun W => Tryd.stringslite_Index_one s 58 W)
  have hsz : (⟨#[58]⟩ : ByteArray).size = 1 := rfl
  unfold cutV
  rcases Lib.indexB_cases s ⟨#[58]⟩ with hix | ⟨i, hix, hroom⟩
  · obtain ⟨e1, e2, e3⟩ := Lib.cutB_miss s ⟨#[58]⟩ hix
    rw [sep58] at e1 e2 e3
    rw [e1, e2, e3]
    have hix' : Lib.indexByte s.data.toList 58 = -1 := by rw [← idx58]; exact hix
    rw [hix'] at HI
    clear hix hix' e1 e2 e3
    go_enter Tryd.func57, Tryd.ntmps57
    go_wp2_with (go_at_call 72; (with_reducible refine (HI.out _).mono ?_); rintro e w' ⟨rfl, hw⟩; subst hw)
    go_ret3
    exact ⟨rfl, Below.refl _ _⟩
  · obtain ⟨e1, e2, e3⟩ := Lib.cutB_hit s ⟨#[58]⟩ i hix
    rw [sep58] at e1 e2 e3
    rw [e1, e2, e3]
    have hix' : Lib.indexByte s.data.toList 58 = i := by rw [← idx58]; exact hix
    rw [hix'] at HI
    rw [hsz] at hroom
    have c1 : (0 : Int) ≤ ↑i := by omega
    have c2 : (↑i : Int) ≤ ↑s.size := by omega
    have c3 : (0 : Int) ≤ ↑i + 1 := by omega
    have c4 : (↑i + 1 : Int) ≤ ↑s.size := by omega
    clear hix hix' e1 e2 e3
    have mixed : Tryd.prog.follows Departure.mixedOrders = true := by kernel_rfl
    go_enter Tryd.func57, Tryd.ntmps57
    go_wp2_with (go_at_call 72; (with_reducible refine (HI.out _).mono ?_); rintro e w' ⟨rfl, hw⟩; subst hw)
    go_region_o
    go_wp2_with fail
    go_ret3
    exact ⟨rfl, by first | exact (Below.refl _ _).drew | exact below_drew (Below.refl _ _)⟩
theorem cut_any (s : ByteArray) (hs : s.size ≤ 1000000000) (w : World) : Calls Tryd.prog 52 #[.string s, .string ⟨#[58]⟩] w fun e w' => e = cutV s ∧ Below w.heap.size w w' := by
  have HI := Aside0.mk (fun W => cut_in s hs W)
  unfold cutV at HI ⊢
  generalize (⟨(Lib.cut s.data.toList [58]).1.toArray⟩ : ByteArray) = a at HI ⊢
  generalize (⟨(Lib.cut s.data.toList [58]).2.1.toArray⟩ : ByteArray) = b at HI ⊢
  generalize (Lib.cut s.data.toList [58]).2.2 = o at HI ⊢
  go_enter Tryd.func52, Tryd.ntmps52
  go_wp2_with (go_at_call 57; (with_reducible refine (HI.out _).mono ?_); rintro e w' ⟨rfl, hb⟩)
  go_ret3
  exact ⟨rfl, hb⟩
end Go.Proofs.YtllcfifeaacmiaaDoor.Pr
