import Derived.Test.YtllcfifeaacmiaaDoorKal
namespace Go.Proofs.YtllcfifeaacmiaaDoor.Pr
open Go.RowKit Go.Proofs.YtllcfifeaacmiaaDoorW.PrintWords Go.Proofs.YtllcfifeaacmiaaDoorW.PrintLast Go.Proofs.YtllcfifeaacmiaaDoorW.PrintMore
set_option linter.unusedVariables false
set_option linter.unusedSimpArgs false

/-! ### BodyNil -/
def portcullislaw20_BodyNil.Pure : Prop := True
set_option maxHeartbeats 2000000 in
theorem portcullislaw20_BodyNil.walk (P : portcullislaw20_BodyNil.Pure) (a0 : ByteArray) (w : World) (w0 : a0.size ≤ 140737488351232) (hG : WG w) :
    Calls Tryd.prog 6 #[.string a0] w fun e w' => e = .returned (.bool true) ∧ Below w.heap.size w w' := by
  have HG := Aside0.mk hG
  clear hG w0 P
  go_enter Tryd.func6, Tryd.ntmps6
  go_wp2_with (first | (go_at_call 13; (with_reducible refine (feed_nil _ _).mono ?_); rintro e w1 ⟨rfl, rfl⟩) | (go_at_call 16; (with_reducible refine (total_nil _).mono ?_); rintro e w2 ⟨rfl, rfl⟩) | (go_at_call 7; (with_reducible refine (alive_any _ HG.out).mono ?_); rintro e w3 ⟨rfl, hb⟩))
  go_ret
  exact ⟨rfl, hb⟩
end Go.Proofs.YtllcfifeaacmiaaDoor.Pr
