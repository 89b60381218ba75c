/- Proved: what chunks are written; any bytes, plainly. -/
import Derived.Test.YtllcfifeaacmiaaDoorGch
namespace Go.Proofs.YtllcfifeaacmiaaDoor.Pure
open Go.RowKit Go.Proofs.YtllcfifeaacmiaaDoor.Pr Go.Proofs.YtllcfifeaacmiaaDoorW.PrintWords Go.Proofs.YtllcfifeaacmiaaDoorW.PrintLast Go.Proofs.YtllcfifeaacmiaaDoorW.PrintMore
set_option linter.unusedVariables false
set_option linter.unusedSimpArgs false

theorem BodyChunks : portcullislaw20_BodyChunks.Pure := by
  intro a0 ha
  refine Pr.Ev.ex (r := true) ?_
  have hal : portcullislaw20_alive.f = some true := rfl
  by_cases c : (a0.size : Int) > 32768
  · refine Pr.Ev.now fun k => ?_
    unfold portcullislaw20_BodyChunks.f
    rw [if_pos c, hal]
    rfl
  · obtain ⟨s, rfl⟩ : ∃ s, a0 = mkB s := ⟨_, mkB_self a0⟩
    rw [mkB_size] at c
    have h1 := chunk_is s (by omega)
    have h2 := rchunk_is s (by omega)
    unfold portcullislaw20_BodyChunks.f
    refine Pr.Ev.of_eq (g := fun k => (portcullisref20_Chunk.f k (mkB s)).bind fun t105 => (if (mkB (chunkL s)).toList = t105.toList then ((body_Last.f).bind fun t106 => ((portcullisref20_Last.f).bind fun t107 => (if t106.toList = t107.toList then ((portcullislaw20_alive.f).bind fun t108 => (some t108)) else (some false)))) else (some false))) (fun k => ?_) ?_
    · rw [if_neg (by rw [mkB_size]; exact c), h1]
      rfl
    · refine Pr.Ev.bind h2 (Pr.Ev.now fun k => ?_)
      rw [if_pos rfl]
      have h3 : body_Last.f = some (⟨#[48, 13, 10, 13, 10]⟩ : ByteArray) := rfl
      have h4 : portcullisref20_Last.f = some (⟨#[48, 13, 10, 13, 10]⟩ : ByteArray) := rfl
      rw [h3, h4, Option.bind_some, Option.bind_some, if_pos rfl, hal]
      rfl
end Go.Proofs.YtllcfifeaacmiaaDoor.Pure
