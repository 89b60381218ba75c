/- Proved: the text of a set is read as its normal form, and a text that is read is told as itself, plainly. -/
import Derived.Test.YtikhoooiklkbiaaDoorGlaw
import Derived.Test.YtikhoooiklkbiaaDoorPrB2
namespace Go.Proofs.YtikhoooiklkbiaaDoor.Pure
open Go.RowKit Go.Proofs.YtikhoooiklkbiaaDoor.Pr Go.Proofs.YtikhoooiklkbiaaDoorW.PrintWords Go.Proofs.YtikhoooiklkbiaaDoorW.PrintLast Go.Proofs.YtikhoooiklkbiaaDoorW.PrintMore
set_option linter.unusedVariables false
set_option linter.unusedSimpArgs false

theorem back_works (l : List Sp) (s : ByteArray) : Pr.Ev (fun k => portcullislaw02_SpanBack.j0 k l s true) true := by
  refine Pr.Ev.step (f := fun k => portcullislaw02_works.f k) (fun k => ?_) works_is
  rw [portcullislaw02_SpanBack.j0, if_pos rfl]
  cases portcullislaw02_works.f k <;> rfl
theorem back_text (s : ByteArray) (hs : s.size ≤ 1000000) : Pr.Ev (fun k => portcullislaw02_SpanBack.j1 k s) true := by
  obtain ⟨⟨L, at_, e⟩, h3, _⟩ := parse_is s hs
  obtain ⟨K6, h6⟩ := works_is
  rcases parse_back s L at_ e h3 with ⟨rfl, rfl, ha, hN, hl⟩ | ⟨rfl, rfl, h0, h1⟩
  · obtain ⟨K1, h1⟩ := txt_is L L 0 (by rw [snorm_is _ (by omega), madeR_self cNorm (fun x => rfl) _ hN hl]) hN.1 hl
    refine ⟨K1 + K6 + 1, fun k hk => ?_⟩
    obtain ⟨k, rfl⟩ : ∃ k', k = k' + 1 := ⟨k - 1, by omega⟩
    have e1 := h1 k (by omega)
    have e6 := h6 k (by omega)
    simp only at e1
    have ht : (mkB (textL L)).toList = s.toList := by rw [ha]
    show portcullislaw02_SpanBack.j1 (k + 1) s = some true
    rw [portcullislaw02_SpanBack.j1, h3, Option.bind_some, if_pos rfl, e1, Option.bind_some, if_pos rfl, if_pos ht, if_pos rfl, e6]
    rfl
  · refine ⟨K6 + 1, fun k hk => ?_⟩
    obtain ⟨k, rfl⟩ : ∃ k', k = k' + 1 := ⟨k - 1, by omega⟩
    have e6 := h6 k (by omega)
    show portcullislaw02_SpanBack.j1 (k + 1) s = some true
    rw [portcullislaw02_SpanBack.j1, h3, Option.bind_some]
    dsimp only
    rw [if_neg (by decide), if_pos (by simp), if_pos h0, if_pos h1, e6]
    rfl
theorem SpanBack : portcullislaw02_SpanBack.Pure := by
  intro l s hl hw hs
  have hj : Pr.Ev (fun k => portcullislaw02_SpanBack.f k l s) true := by
    by_cases c1 : (l.length : Int) > 60
    · refine Pr.Ev.of_eq (fun k => ?_) (back_works l s)
      unfold portcullislaw02_SpanBack.f
      rw [if_pos c1]
    · by_cases c2 : (s.size : Int) > 4096
      · refine Pr.Ev.of_eq (fun k => ?_) (back_works l s)
        unfold portcullislaw02_SpanBack.f
        rw [if_neg c1, decide_eq_true c2]
      · have hn := madeR_nf cNorm l []
        have hN := snorm_is l (by omega)
        obtain ⟨m, e, hme⟩ : ∃ m e, madeR cNorm l [] = (m, e) := ⟨_, _, rfl⟩
        rw [hme] at hn hN
        obtain ⟨K1, h1⟩ := txt_is l m e hN hn.1.1 hn.2
        obtain ⟨K2, h2⟩ := back_text s (by omega)
        obtain ⟨K5, h5⟩ := same_is m (Nat.le_trans hn.2 (by decide))
        refine ⟨K1 + K2 + K5 + 1, fun k hk => ?_⟩
        obtain ⟨k, rfl⟩ : ∃ k', k = k' + 1 := ⟨k - 1, by omega⟩
        have e1 := h1 k (by omega)
        have e2 := h2 k (by omega)
        have e5 := h5 k (by omega)
        simp only at e1 e2 e5
        show portcullislaw02_SpanBack.f (k + 1) l s = some true
        unfold portcullislaw02_SpanBack.f
        rw [if_neg c1, decide_eq_false c2, portcullislaw02_SpanBack.j0, if_neg (by decide), copied_is l (by omega), Option.bind_some, e1, Option.bind_some]
        by_cases he : e = 0
        · rw [if_pos he, parse_text m hn.1 hn.2, Option.bind_some, Option.bind_some, hN, Option.bind_some, if_pos rfl, if_pos rfl, e5, Option.bind_some, if_pos rfl, e2]
        · rw [if_neg he, e2]
  obtain ⟨K, h⟩ := hj
  exact ⟨K, h K (Nat.le_refl _)⟩
end Go.Proofs.YtikhoooiklkbiaaDoor.Pure
