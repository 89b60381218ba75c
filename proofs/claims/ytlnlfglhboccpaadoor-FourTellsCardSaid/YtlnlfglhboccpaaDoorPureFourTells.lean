/- Proved: which texts are numbers, end in one, are addresses, and what an address's text is, just as the document says. -/
import Derived.Test.YtlnlfglhboccpaaDoorGend
namespace Go.Proofs.YtlnlfglhboccpaaDoor.Pure
open Go.RowKit Go.Proofs.YtlnlfglhboccpaaDoor.Pr Go.Proofs.YtlnlfglhboccpaaDoorW.PrintWords Go.Proofs.YtlnlfglhboccpaaDoorW.PrintLast
theorem u32_wf {a : Int} (h : (Lit.int .u32 a).wf = true) : 0 ≤ a ∧ a < 4294967296 := by
  simp [Lit.wf, IntKind.min, IntKind.max, IntKind.signed, IntKind.bits] at h
  omega
theorem FourTells : portcullislaw10_FourTells.Pure := by
  intro s a h0 h1
  obtain ⟨ha0, ha1⟩ := u32_wf h1
  unfold portcullislaw10_FourTells.f
  by_cases hl : s.size > 8192
  · exact ⟨10, by rw [if_pos (by omega), works_eq 0]; rfl⟩
  · have hz : ∀ x ∈ partsB s, x.size ≤ s.size := parts_mem s
    have e1 := num_some s (by omega)
    have e2 := refNumber_eq s (by omega) (s.size + 15)
    have e3 := four_parse_eq s (by omega) (fun x hx => by have := hz x hx; omega) (2 * s.size + 15)
    have e4 := ref_parse_eq s (by omega) hz s.size
    have e5 := four_ends_eq s (by omega)
    have e6 := ref_ends_eq s (by omega) 0
    have e7 := four_text_eq (2 * s.size + 15) a ha0 ha1
    have e8 := ref_text_eq (2 * s.size + 15) a ha0 ha1
    have e9 := works_eq (2 * s.size + 10)
    rw [show s.size + 15 + s.size + 5 = 2 * s.size + 20 by omega] at e2
    rw [show 2 * s.size + 15 + 5 = 2 * s.size + 20 by omega] at e3 e7 e8
    rw [show s.size + 20 + s.size = 2 * s.size + 20 by omega] at e4
    rw [show 0 + 20 + 2 * s.size = 2 * s.size + 20 by omega] at e6
    rw [show 2 * s.size + 10 + 10 = 2 * s.size + 20 by omega] at e9
    refine ⟨2 * s.size + 20, ?_⟩
    rw [if_neg (by omega), e1, Option.bind_some, e2, Option.bind_some, e3, Option.bind_some, e4, Option.bind_some, if_pos rfl, if_pos rfl, if_pos rfl, if_pos rfl, e5, Option.bind_some, e6, Option.bind_some, if_pos (by simp), e7, Option.bind_some, e8, Option.bind_some, if_pos rfl, e9]
    rfl
end Go.Proofs.YtlnlfglhboccpaaDoor.Pure
