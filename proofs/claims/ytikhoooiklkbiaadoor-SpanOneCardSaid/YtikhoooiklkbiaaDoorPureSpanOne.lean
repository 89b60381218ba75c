/- Proved: a set with one code point more has just that one more, and without it is as it was, plainly. -/
import Derived.Test.YtikhoooiklkbiaaDoorGlaw
import Derived.Test.YtikhoooiklkbiaaDoorPrB3
namespace Go.Proofs.YtikhoooiklkbiaaDoor.Pure
open Go.RowKit Go.Proofs.YtikhoooiklkbiaaDoor.Pr Go.Proofs.YtikhoooiklkbiaaDoorW.PrintWords Go.Proofs.YtikhoooiklkbiaaDoorW.PrintLast Go.Proofs.YtikhoooiklkbiaaDoorW.PrintMore
set_option linter.unusedVariables false
set_option linter.unusedSimpArgs false

theorem one_works (l : List Sp) (r : Int) : Pr.Ev (fun k => portcullislaw02_SpanOne.j0 k l r true) true := by
  refine Pr.Ev.step (f := fun k => portcullislaw02_works.f k) (fun k => ?_) works_is
  rw [portcullislaw02_SpanOne.j0, if_pos rfl]
  cases portcullislaw02_works.f k <;> rfl
theorem in_one (r x : Int) : hasL [⟨r, r⟩] x = decide (x = r) := by
  show (decide (r ≤ x ∧ x ≤ r) || false) = _
  rw [Bool.or_false]
  exact decide_eq_decide.2 (by omega)
theorem SpanOne : portcullislaw02_SpanOne.Pure := by
  intro l r hl hw hr
  have hj : Pr.Ev (fun k => portcullislaw02_SpanOne.f k l r) true := by
    by_cases c1 : (l.length : Int) > 60
    · refine Pr.Ev.of_eq (fun k => ?_) (one_works l r)
      unfold portcullislaw02_SpanOne.f
      rw [if_pos c1]
    · obtain ⟨K0, h0⟩ := scheck_is l (by omega)
      have hstart : ∀ (b : Bool), (∀ k, K0 ≤ k → portcullislaw02_SpanOne.f k l r = portcullislaw02_SpanOne.j0 k l r b) → Pr.Ev (fun k => portcullislaw02_SpanOne.j0 k l r b) true → Pr.Ev (fun k => portcullislaw02_SpanOne.f k l r) true := fun b h1 ⟨K, h2⟩ =>
        ⟨K0 + K, fun k hk => by show portcullislaw02_SpanOne.f k l r = _; rw [h1 k (by omega)]; exact h2 k (by omega)⟩
      by_cases c2 : chk l = 0
      · by_cases c3 : r < 0
        · refine hstart true (fun k hk => ?_) (one_works l r)
          have e0 := h0 k hk
          simp only at e0
          unfold portcullislaw02_SpanOne.f
          rw [if_neg c1, e0, Option.bind_some, if_pos c2, if_pos c3]
        · by_cases c4 : r > 1114111
          · refine hstart true (fun k hk => ?_) (one_works l r)
            have e0 := h0 k hk
            simp only at e0
            unfold portcullislaw02_SpanOne.f
            rw [if_neg c1, e0, Option.bind_some, if_pos c2, if_neg c3, decide_eq_true c4]
          · refine hstart false (fun k hk => ?_) ?_
            · have e0 := h0 k hk
              simp only at e0
              unfold portcullislaw02_SpanOne.f
              rw [if_neg c1, e0, Option.bind_some, if_pos c2, if_neg c3, decide_eq_false c4]
            · -- the sets
              obtain ⟨hl1, hok⟩ := chk_ok c2
              have hone : ∀ s ∈ [(⟨r, r⟩ : Sp)], okS s := fun s hs => by rw [List.mem_singleton.1 hs]; exact ⟨by simp only; omega, Int.le_refl _, by simp only; omega⟩
              have ck1 : chk [(⟨r, r⟩ : Sp)] = 0 := chk_of hone (by simp)
              have hnil : ∀ s ∈ ([] : List Sp), okS s := fun s hs => (List.not_mem_nil hs).elim
              have m1 := made_nf cUnion l [⟨r, r⟩] hok hone
              have q1 := madeF_len cUnion l [⟨r, r⟩]
              obtain ⟨M, hM⟩ : ∃ M, madeF cUnion l [⟨r, r⟩] = M := ⟨_, rfl⟩
              have R1 : madeR cUnion l [⟨r, r⟩] = (M, 0) := by rw [madeR_ok c2 ck1 (by simp only [List.length_cons, List.length_nil] at q1; omega), hM]
              rw [hM] at m1 q1
              simp only [List.length_cons, List.length_nil] at q1
              have ckM : chk M = 0 := chk_of m1.1.1 (by omega)
              have m2 := made_nf cLess M [⟨r, r⟩] m1.1.1 hone
              have q2 := madeF_len cLess M [⟨r, r⟩]
              obtain ⟨D, hD⟩ : ∃ D, madeF cLess M [⟨r, r⟩] = D := ⟨_, rfl⟩
              have R2 : madeR cLess M [⟨r, r⟩] = (D, 0) := by rw [madeR_ok ckM ck1 (by simp only [List.length_cons, List.length_nil] at q2; omega), hD]
              rw [hD] at m2 q2
              simp only [List.length_cons, List.length_nil] at q2
              have m3 := made_nf cNorm l [] hok hnil
              have q3 := madeF_len cNorm l []
              obtain ⟨O, hO⟩ : ∃ O, madeF cNorm l [] = O := ⟨_, rfl⟩
              have R3 : madeR cNorm l [] = (O, 0) := by rw [madeR_ok c2 chk_nil (by simp only [List.length_nil] at q3; omega), hO]
              rw [hO] at m3 q3
              simp only [List.length_nil] at q3
              have m4 := made_nf cLess l [⟨r, r⟩] hok hone
              have q4 := madeF_len cLess l [⟨r, r⟩]
              obtain ⟨A, hA⟩ : ∃ A, madeF cLess l [⟨r, r⟩] = A := ⟨_, rfl⟩
              have R4 : madeR cLess l [⟨r, r⟩] = (A, 0) := by rw [madeR_ok c2 ck1 (by simp only [List.length_cons, List.length_nil] at q4; omega), hA]
              rw [hA] at m4 q4
              simp only [List.length_cons, List.length_nil] at q4
              have hrr : 0 ≤ r ∧ r ≤ 1114111 := by omega
              have hMr : hasL M r = true := by rw [m1.2, if_pos hrr, in_one]; unfold cUnion; simp
              have hDr : hasL D r = false := by rw [m2.2, if_pos hrr, in_one]; unfold cLess; simp
              have hDA : D = A := nf_unique D A m2.1 m4.1 (fun x => by
                rw [m2.2, m4.2]
                split
                · next hx =>
                  rw [m1.2, if_pos hx, in_one]
                  unfold cLess cUnion
                  cases hasL l x <;> cases (decide (x = r)) <;> rfl
                · rfl)
              subst hDA
              obtain ⟨K1, h1⟩ := same_is D (by omega)
              obtain ⟨K6, h6⟩ := works_is
              have U : span_Union.f l [⟨r, r⟩] = some (M, 0) := by unfold span_Union.f; rw [if_pos ⟨by omega, by simp⟩, R1]
              have L1 : span_Less.f M [⟨r, r⟩] = some (D, 0) := by unfold span_Less.f; rw [if_pos ⟨by omega, by simp⟩, R2]
              have L2 : span_Less.f l [⟨r, r⟩] = some (D, 0) := by unfold span_Less.f; rw [if_pos ⟨by omega, by simp⟩, R4]
              have NN : span_Norm.f l = some (O, 0) := by rw [snorm_is l (by omega), R3]
              have HM : span_Has.f M r = some true := by rw [hasF_is M r (by omega), ckM, hMr]; rfl
              have HD : span_Has.f D r = some false := by rw [hasF_is D r (by omega), hDr, Bool.and_false]
              have HL : span_Has.f l r = some (hasL l r) := by rw [hasF_is l r (by omega), c2]; rfl
              -- the last part
              have hlast : Pr.Ev (fun k => portcullislaw02_SpanOne.j1 k l r M D O false) true := by
                cases hlr : hasL l r with
                | true =>
                  have hMO : M = O := nf_unique M O m1.1 m3.1 (fun x => by
                    rw [m1.2, m3.2]
                    split
                    · next hx =>
                      rw [in_one]
                      unfold cUnion cNorm
                      by_cases hxr : x = r
                      · rw [hxr, hlr]; rfl
                      · rw [decide_eq_false hxr, Bool.or_false]
                    · rfl)
                  subst hMO
                  obtain ⟨K2, h2⟩ := same_is M (by omega)
                  refine ⟨K2 + K6 + 1, fun k hk => ?_⟩
                  obtain ⟨k, rfl⟩ : ∃ k', k = k' + 1 := ⟨k - 1, by omega⟩
                  have e2 := h2 k (by omega)
                  have e6 := h6 k (by omega)
                  simp only at e2
                  show portcullislaw02_SpanOne.j1 (k + 1) l r M D M false = some true
                  rw [portcullislaw02_SpanOne.j1, if_neg (by decide), HL, hlr, Option.bind_some, if_pos rfl, e2, Option.bind_some, if_pos rfl, e6]
                  rfl
                | false =>
                  have hDO : D = O := nf_unique D O m4.1 m3.1 (fun x => by
                    rw [m4.2, m3.2]
                    split
                    · next hx =>
                      rw [in_one]
                      unfold cLess cNorm
                      by_cases hxr : x = r
                      · rw [hxr, hlr]; rfl
                      · rw [decide_eq_false hxr]; simp
                    · rfl)
                  subst hDO
                  obtain ⟨K2, h2⟩ := same_is D (by omega)
                  obtain ⟨K3, h3⟩ := count_is M (by omega)
                  obtain ⟨K4, h4⟩ := count_is l (by omega)
                  rw [madeR_self cNorm (fun x => rfl) M m1.1 (by omega)] at h3
                  rw [R3] at h4
                  obtain ⟨N, hN⟩ : ∃ N : Nat, N = 1114112 := ⟨_, rfl⟩
                  have hc : cntL M = cntL D + 1 := by
                    rw [cnt_is N hN M m1.1, cnt_is N hN D m3.1]
                    have hsum := cntN_sum (f := fun x => hasL M x) (g := fun _ => false) (p := fun x => hasL D x) (q := fun x => decide (inS ⟨r, r⟩ x)) N (fun x hx => by
                      have hx2 : 0 ≤ (x : Int) ∧ (x : Int) ≤ 1114111 := by omega
                      have e : decide (inS ⟨r, r⟩ (x : Int)) = decide ((x : Int) = r) := decide_eq_decide.2 (by unfold inS; simp only; omega)
                      rw [m1.2, m3.2, if_pos hx2, if_pos hx2, in_one, e]
                      unfold cUnion cNorm
                      by_cases hxr : (x : Int) = r
                      · rw [hxr, hlr, decide_eq_true rfl]; rfl
                      · rw [decide_eq_false hxr, Bool.or_false])
                    have hin := cntN_in ⟨r, r⟩ hrr.1 (Int.le_refl _) N
                    rw [cntN_false, hin] at hsum
                    simp only at hsum
                    rw [if_neg (by omega), if_neg (by omega)] at hsum
                    omega
                  have hb := cntL_bound D m3.1.1
                  have hw1 : wrap64 (cntL D + 1) = cntL D + 1 := w64b _ (by omega) (by omega)
                  refine ⟨K2 + K3 + K4 + K6 + 1, fun k hk => ?_⟩
                  obtain ⟨k, rfl⟩ : ∃ k', k = k' + 1 := ⟨k - 1, by omega⟩
                  have e2 := h2 k (by omega)
                  have e3 := h3 k (by omega)
                  have e4 := h4 k (by omega)
                  have e6 := h6 k (by omega)
                  simp only at e2 e3 e4
                  show portcullislaw02_SpanOne.j1 (k + 1) l r M D D false = some true
                  rw [portcullislaw02_SpanOne.j1, if_neg (by decide), HL, hlr, Option.bind_some, if_neg (by decide), e3, Option.bind_some, e4, Option.bind_some, hw1, if_pos hc, e2, Option.bind_some, if_pos rfl, e6]
                  rfl
              obtain ⟨K7, h7⟩ := hlast
              refine ⟨K1 + K7 + 1, fun k hk => ?_⟩
              obtain ⟨k, rfl⟩ : ∃ k', k = k' + 1 := ⟨k - 1, by omega⟩
              have e1 := h1 k (by omega)
              have e7 := h7 k (by omega)
              simp only at e1 e7
              show portcullislaw02_SpanOne.j0 (k + 1) l r false = some true
              rw [portcullislaw02_SpanOne.j0, if_neg (by decide), Option.bind_some, copied_is l (by omega), Option.bind_some, copied_is [⟨r, r⟩] (by simp), Option.bind_some, U, Option.bind_some]
              dsimp only
              rw [copied_is M (by omega), Option.bind_some, Option.bind_some, L1, Option.bind_some, Option.bind_some, NN, Option.bind_some, Option.bind_some, Option.bind_some, L2, Option.bind_some]
              dsimp only
              simp only [if_true]
              rw [HM, Option.bind_some, if_pos rfl, HD, Option.bind_some, if_neg (by decide), e1, Option.bind_some]
              exact e7
      · refine hstart true (fun k hk => ?_) (one_works l r)
        have e0 := h0 k hk
        simp only at e0
        unfold portcullislaw02_SpanOne.f
        rw [if_neg c1, e0, Option.bind_some, if_neg c2]
  obtain ⟨K, h⟩ := hj
  exact ⟨K, h K (Nat.le_refl _)⟩
end Go.Proofs.YtikhoooiklkbiaaDoor.Pure
