/- Proved: the text of any spans, and which texts are spans, plainly. -/
import Derived.Test.YtikhoooiklkbiaaDoorGlaw
import Derived.Test.YtikhoooiklkbiaaDoorPrB2
namespace Go.Proofs.YtikhoooiklkbiaaDoor.Pure
open Go.RowKit Go.Proofs.YtikhoooiklkbiaaDoor.Pr Go.Proofs.YtikhoooiklkbiaaDoorW.PrintWords Go.Proofs.YtikhoooiklkbiaaDoorW.PrintLast Go.Proofs.YtikhoooiklkbiaaDoorW.PrintMore
set_option linter.unusedVariables false
set_option linter.unusedSimpArgs false

theorem tells_works (l : List Sp) (s : ByteArray) : Pr.Ev (fun k => portcullislaw02_SpanTells.j0 k l s true) true := by
  refine Pr.Ev.step (f := fun k => portcullislaw02_works.f k) (fun k => ?_) works_is
  rw [portcullislaw02_SpanTells.j0, if_pos rfl]
  cases portcullislaw02_works.f k <;> rfl
theorem SpanTells : portcullislaw02_SpanTells.Pure := by
  intro l s hl hw hs
  have hmany : portcullislaw02_many.f l = some (decide ((l.length : Int) > 1084)) := rfl
  have hj : Pr.Ev (fun k => portcullislaw02_SpanTells.f k l s) true := by
    by_cases c1 : (l.length : Int) > 1084
    · refine Pr.Ev.of_eq (fun k => ?_) (tells_works l s)
      unfold portcullislaw02_SpanTells.f
      rw [hmany, Option.bind_some, decide_eq_true c1, if_pos rfl]
    · by_cases c2 : (s.size : Int) > 16384
      · refine Pr.Ev.of_eq (fun k => ?_) (tells_works l s)
        unfold portcullislaw02_SpanTells.f
        rw [hmany, Option.bind_some, decide_eq_false c1, if_neg (by decide), decide_eq_true c2]
      · have hn := madeR_nf cNorm l []
        obtain ⟨K1, h1⟩ := txt_is l (madeR cNorm l []).1 (madeR cNorm l []).2 (snorm_is l (by omega)) hn.1.1 hn.2
        obtain ⟨K2, h2⟩ := rtxt_is l (madeR cNorm l []).1 (madeR cNorm l []).2 (rnorm_is l (by omega)) hn.1.1 hn.2
        obtain ⟨⟨L, at_, e⟩, h3, K4, h4⟩ := parse_is s (by omega)
        have hL : L.length ≤ 1000000 := by
          rcases parse_back s L at_ e h3 with ⟨_, _, _, _, h⟩ | ⟨_, h, _⟩
          · omega
          · rw [h]; simp
        obtain ⟨K5, h5⟩ := same_is L hL
        obtain ⟨K6, h6⟩ := works_is
        refine ⟨K1 + K2 + K4 + K5 + K6 + 1, fun k hk => ?_⟩
        obtain ⟨k, rfl⟩ : ∃ k', k = k' + 1 := ⟨k - 1, by omega⟩
        have e1 := h1 k (by omega)
        have e2 := h2 k (by omega)
        have e4 := h4 k (by omega)
        have e5 := h5 k (by omega)
        have e6 := h6 k (by omega)
        simp only at e1 e2 e4 e5
        show portcullislaw02_SpanTells.f (k + 1) l s = some true
        unfold portcullislaw02_SpanTells.f
        rw [hmany, Option.bind_some, decide_eq_false c1, if_neg (by decide), decide_eq_false c2, portcullislaw02_SpanTells.j0, if_neg (by decide), copied_is l (by omega), Option.bind_some, e1, Option.bind_some, e2, Option.bind_some, h3, Option.bind_some, e4, Option.bind_some, if_pos rfl, if_pos rfl, e5, Option.bind_some, if_pos rfl, if_pos rfl, if_pos rfl, e6]
        rfl
  obtain ⟨K, h⟩ := hj
  exact ⟨K, h K (Nat.le_refl _)⟩
end Go.Proofs.YtikhoooiklkbiaaDoor.Pure
