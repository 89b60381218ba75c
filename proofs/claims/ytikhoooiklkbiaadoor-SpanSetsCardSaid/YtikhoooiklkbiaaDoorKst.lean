import Derived.Test.YtikhoooiklkbiaaDoorGlaw
namespace Go.Proofs.YtikhoooiklkbiaaDoor.Pr
open Go.RowKit Go.Proofs.YtikhoooiklkbiaaDoorW.PrintWords Go.Proofs.YtikhoooiklkbiaaDoorW.PrintLast Go.Proofs.YtikhoooiklkbiaaDoorW.PrintMore
set_option linter.unusedVariables false
set_option linter.unusedSimpArgs false

/-! ### The rows of spans that a law has in hand -/
abbrev SRow := Option Addr × Nat × List Sp
structure St (w0 W : World) (L : List SRow) : Prop where
  bel : Below w0.heap.size w0 W
  all : ∀ x ∈ L, Kd.C k37 W x.1 x.2.2.length x.2.2 ∧ x.2.2.length ≤ x.2.1
theorem St.low {w0 W W1 : World} {L : List SRow} (h : St w0 W L) (hb : Below W.heap.size W W1) : St w0 W1 L := ⟨below_step h.bel hb, fun x hx => ⟨Kd.C_below (h.all x hx).1 hb, (h.all x hx).2⟩⟩
theorem St.row {w0 W W1 : World} {L : List SRow} (h : St w0 W L) {v : Value} {r : List Sp} {ok : Nat → Prop} (hR : Kd.R k37 37 W1 W.heap.size ok v r) (hb : Below W.heap.size W W1) : ∃ A c, v = .slice A r.length c ∧ St w0 W1 ((A, c, r) :: L) := by
  obtain ⟨A, c, rfl⟩ := Kd.R_slice hR
  refine ⟨A, c, rfl, (h.low hb).bel, fun x hx => ?_⟩
  rcases List.mem_cons.1 hx with rfl | hx
  · exact ⟨(Kd.R_reads' hR).2.2, (Kd.R_reads' hR).2.1⟩
  · exact (h.low hb).all x hx
theorem St.c {w0 W : World} {L : List SRow} (h : St w0 W L) {A : Option Addr} {c : Nat} {l : List Sp} (hm : (A, c, l) ∈ L) : Kd.C k37 W A l.length l := (h.all _ hm).1
theorem St.le {w0 W : World} {L : List SRow} (h : St w0 W L) {A : Option Addr} {c : Nat} {l : List Sp} (hm : (A, c, l) ∈ L) : l.length ≤ c := (h.all _ hm).2
theorem St.start (w : World) (L : List SRow) (h : ∀ x ∈ L, Kd.C k37 w x.1 x.2.2.length x.2.2 ∧ x.2.2.length ≤ x.2.1) : St w w L := ⟨Below.refl _ _, h⟩
theorem St.drew {w0 W : World} {L : List SRow} (h : St w0 W L) : St w0 W.drew L := h.low (below_drew (Below.refl _ _))
theorem cntH0 : cntH 0 = cUnion := by funext x y; unfold cntH cUnion; simp
theorem cntH1 : cntH 1 = cMeet := by funext x y; unfold cntH cMeet; simp
theorem cntH2 : cntH 2 = cLess := by funext x y; unfold cntH cLess; simp
theorem cntH3 (l : List Sp) : madeR (cntH 3) l [] = madeR cNot l [] := madeR_congr (fun x => by unfold cntH cNot; simp) l
end Go.Proofs.YtikhoooiklkbiaaDoor.Pr
