/- Proved: a text goes into a frame, and is cut out of bytes, just as the chapter says (crc.Frame, Cut against the reference; Cut of Frame is the text); the law returns true for every input. No condition. -/
import Derived.Test.YtbeffjdplelojaaPrB2
import Derived.Test.YtbeffjdplelojaaBalive
namespace Go.Proofs.Ytbeffjdplelojaa.Pure
open Go.RowKit Go.Proofs.Ytbeffjdplelojaa.Pr Go.Proofs.YtbeffjdplelojaaW.PrintWords Go.Proofs.YtbeffjdplelojaaW.PrintLast
set_option linter.unusedVariables false
set_option linter.unusedSimpArgs false

theorem CrcFrames : portcullislaw22_CrcFrames.Pure := by
  intro s t hs ht
  refine ⟨100000, ?_⟩
  have ha : ∀ k, 100 ≤ k → portcullislaw22_alive.f k = some true := alive_is
  have hz : portcullislaw22_CrcFrames.j0 100000 s t true = some true := by
    rw [portcullislaw22_CrcFrames.j0, if_pos rfl, ha 99999 (by omega)]
    rfl
  unfold portcullislaw22_CrcFrames.f
  by_cases h1 : (s.size : Int) > 4105
  · rw [if_pos h1, hz]
  by_cases h2 : (t.size : Int) > 16384
  · rw [if_neg h1, decide_eq_true h2, hz]
  rw [if_neg h1, decide_eq_false h2, portcullislaw22_CrcFrames.j0, if_neg (by decide), refframe_is s (by omega) 99999 (by omega)]
  obtain ⟨f, e, hf⟩ : ∃ f e, crc_Frame.f s = some (f, e) := by unfold crc_Frame.f; split <;> exact ⟨_, _, rfl⟩
  rw [hf]
  simp only [Option.bind_some, if_true]
  rw [bne_self_eq_false, portcullislaw22_CrcFrames.j1, if_neg (by decide), cut_is t (by omega) 99998 (by omega), refcut_is t (by omega) 99998 (by omega)]
  simp only [Option.bind_some, if_true]
  rw [bne_self_eq_false, portcullislaw22_CrcFrames.j2, if_neg (by decide), ha 99997 (by omega)]
  by_cases h3 : 4096 < s.size
  · have : crc_Frame.f s = some (⟨#[]⟩, 4) := by unfold crc_Frame.f; rw [if_pos h3]
    rw [hf] at this
    obtain ⟨rfl, rfl⟩ := Prod.mk.inj (Option.some.inj this)
    rw [if_neg (by omega)]
    rfl
  · have : crc_Frame.f s = some (strOfNums (frameL s), 0) := by unfold crc_Frame.f; rw [if_neg h3]
    rw [hf] at this
    obtain ⟨rfl, rfl⟩ := Prod.mk.inj (Option.some.inj this)
    have zf : (strOfNums (frameL s)).size = 8 + s.size := by
      rw [size_bl (frame_bl s (by omega))]
      simp [four4, bl_length]
      omega
    have zft : (strOfNums (frameL s) ++ t).size = 8 + s.size + t.size := by rw [size_bl (bl_append _ _), List.length_append, bl_length, bl_length, zf]
    rw [if_pos rfl, if_pos (by omega), cut_is _ (by omega) 99997 (by omega), cut_frame s t (by omega)]
    simp
end Go.Proofs.Ytbeffjdplelojaa.Pure
