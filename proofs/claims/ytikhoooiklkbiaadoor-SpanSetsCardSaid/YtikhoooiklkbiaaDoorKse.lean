import Derived.Test.YtikhoooiklkbiaaDoorKst
import Derived.Test.YtikhoooiklkbiaaDoorPrB1
import Derived.Test.YtikhoooiklkbiaaDoorSpn
namespace Go.Proofs.YtikhoooiklkbiaaDoor.Pr
open Go.RowKit Go.Proofs.YtikhoooiklkbiaaDoorW.PrintWords Go.Proofs.YtikhoooiklkbiaaDoorW.PrintLast Go.Proofs.YtikhoooiklkbiaaDoorW.PrintMore
set_option linter.unusedVariables false
set_option linter.unusedSimpArgs false

/-! ### SpanSets -/
set_option maxRecDepth 8000 in
set_option maxHeartbeats 4000000 in
theorem sets_way (K : Nat) (l0 l1 U M D N O : List Sp) (l2 : List Int) (e1 e2 e3 nl0 nl1 nU nM nD nN nS : Int) (A0 A1 A2 : Option Addr) (x0 x1 c2 : Nat) (w : World) (hS : St w w [(A0, x0, l0), (A1, x1, l1)]) (hI : Kd.C (Kd.int .i32) w A2 l2.length l2) (hG : WG w)
    (hq0 : l0.length ≤ 60) (hq1 : l1.length ≤ 60) (hq2 : l2.length ≤ 200) (hkl0 : span_Check.f K l0 = some 0) (hkl1 : span_Check.f K l1 = some 0)
    (hpl0 : portcullislaw02_copied.f l0 = some l0) (hpl1 : portcullislaw02_copied.f l1 = some l1) (hpN : portcullislaw02_copied.f N = some N)
    (hU : span_Union.f l0 l1 = some (U, e1)) (hM : span_Meet.f l0 l1 = some (M, e2)) (hD : span_Less.f l0 l1 = some (D, e3)) (hN : span_Not.f l0 = some (N, 0)) (hB : span_Not.f N = some (O, 0)) (hO : span_Norm.f l0 = some (O, 0))
    (hs : portcullislaw02_same.f K O O = some true)
    (hcl0 : span_Count.f K l0 = some nl0) (hcl1 : span_Count.f K l1 = some nl1) (hcU : span_Count.f K U = some nU) (hcM : span_Count.f K M = some nM) (hcD : span_Count.f K D = some nD) (hcN : span_Count.f K N = some nN)
    (z1 : IntKind.i64.wrap (nl0 + nN) = 1114112) (z2 : IntKind.i64.wrap (nU + nM) = nS) (z3 : IntKind.i64.wrap (nl0 + nl1) = nS) (z4 : IntKind.i64.wrap (nD + nM) = nl0)
    (h0 : ∀ r, span_Has.f l0 r = some (hasL l0 r)) (h1 : ∀ r, span_Has.f l1 r = some (hasL l1 r)) (h2 : ∀ r, span_Has.f U r = some (hasL l0 r || hasL l1 r)) (h3 : ∀ r, span_Has.f M r = some (hasL l0 r && hasL l1 r)) (h4 : ∀ r, span_Has.f D r = some (hasL l0 r && !hasL l1 r)) (h5 : ∀ r, span_Has.f N r = some (decide (0 ≤ r ∧ r ≤ 1114111) && !hasL l0 r))
    (h6 : ∀ r, ¬ (0 ≤ r ∧ r ≤ 1114111) → hasL l0 r = false ∧ hasL l1 r = false) (hw : portcullislaw02_works.f K = some true) :
    Calls Tryd.prog 7 #[.slice A0 l0.length x0, .slice A1 l1.length x1, .slice A2 l2.length c2] w fun e w' => e = .returned (.bool true) ∧ Below w.heap.size w w' := by
  have HS := Aside0.mk hS
  have HG := Aside0.mk hG
  have HI := Aside0.mk hI
  clear hS hG hI
  replace hkl0 := Aside0.mk hkl0
  replace hkl1 := Aside0.mk hkl1
  replace hpl0 := Aside0.mk hpl0
  replace hpl1 := Aside0.mk hpl1
  replace hpN := Aside0.mk hpN
  replace hU := Aside0.mk hU
  replace hM := Aside0.mk hM
  replace hD := Aside0.mk hD
  replace hN := Aside0.mk hN
  replace hB := Aside0.mk hB
  replace hO := Aside0.mk hO
  replace hs := Aside0.mk hs
  replace hcl0 := Aside0.mk hcl0
  replace hcl1 := Aside0.mk hcl1
  replace hcU := Aside0.mk hcU
  replace hcM := Aside0.mk hcM
  replace hcD := Aside0.mk hcD
  replace hcN := Aside0.mk hcN
  replace h0 := Aside0.mk h0
  replace h1 := Aside0.mk h1
  replace h2 := Aside0.mk h2
  replace h3 := Aside0.mk h3
  replace h4 := Aside0.mk h4
  replace h5 := Aside0.mk h5
  replace h6 := Aside0.mk h6
  replace hw := Aside0.mk hw
  have g0 : decide ((60 : Int) < (l0.length : Int)) = false := decide_eq_false (by omega)
  have g0' : decide (60 < l0.length) = false := decide_eq_false (by omega)
  have g1 : decide ((60 : Int) < (l1.length : Int)) = false := decide_eq_false (by omega)
  have g1' : decide (60 < l1.length) = false := decide_eq_false (by omega)
  have g2 : decide ((200 : Int) < (l2.length : Int)) = false := decide_eq_false (by omega)
  have g2' : decide (200 < l2.length) = false := decide_eq_false (by omega)
  clear hq0 hq1
  replace hq2 := Aside0.mk hq2
  go_enter Tryd.func7, Tryd.ntmps7
  go_upto_region 3 with (first | (go_at_call 17; with_reducible refine (span_Check.calls K A0 x0 l0 0 _ (HS.out.c (A := A0) (c := x0) (by repeat (first | exact List.mem_cons_self | refine List.mem_cons_of_mem _ ?_))) (HS.out.le (A := A0) (c := x0) (by repeat (first | exact List.mem_cons_self | refine List.mem_cons_of_mem _ ?_))) hkl0.out).mono ?_; rintro e w1 ⟨rfl, hb⟩; replace HS := Aside0.mk (HS.out.low hb); clear hb) | (go_at_call 17; with_reducible refine (span_Check.calls K A1 x1 l1 0 _ (HS.out.c (A := A1) (c := x1) (by repeat (first | exact List.mem_cons_self | refine List.mem_cons_of_mem _ ?_))) (HS.out.le (A := A1) (c := x1) (by repeat (first | exact List.mem_cons_self | refine List.mem_cons_of_mem _ ?_))) hkl1.out).mono ?_; rintro e w1 ⟨rfl, hb⟩; replace HS := Aside0.mk (HS.out.low hb); clear hb))
  go_upto_region 9 with (first | (go_at_call 11; with_reducible refine (portcullislaw02_copied.calls A0 x0 l0 l0 _ (HS.out.c (A := A0) (c := x0) (by repeat (first | exact List.mem_cons_self | refine List.mem_cons_of_mem _ ?_))) (HS.out.le (A := A0) (c := x0) (by repeat (first | exact List.mem_cons_self | refine List.mem_cons_of_mem _ ?_))) hpl0.out).mono ?_; rintro e w1 ⟨v1, rfl, hr, hb⟩; obtain ⟨Ap, xp, rfl, hS⟩ := HS.out.row hr hb; replace HS := Aside0.mk hS; clear hS hr hb) | (go_at_call 11; with_reducible refine (portcullislaw02_copied.calls A1 x1 l1 l1 _ (HS.out.c (A := A1) (c := x1) (by repeat (first | exact List.mem_cons_self | refine List.mem_cons_of_mem _ ?_))) (HS.out.le (A := A1) (c := x1) (by repeat (first | exact List.mem_cons_self | refine List.mem_cons_of_mem _ ?_))) hpl1.out).mono ?_; rintro e w1 ⟨v1, rfl, hr, hb⟩; obtain ⟨Aq, xq, rfl, hS⟩ := HS.out.row hr hb; replace HS := Aside0.mk hS; clear hS hr hb) | (go_at_call 11; with_reducible refine (portcullislaw02_copied.calls AN xN N N _ (HS.out.c (A := AN) (c := xN) (by repeat (first | exact List.mem_cons_self | refine List.mem_cons_of_mem _ ?_))) (HS.out.le (A := AN) (c := xN) (by repeat (first | exact List.mem_cons_self | refine List.mem_cons_of_mem _ ?_))) hpN.out).mono ?_; rintro e w1 ⟨v1, rfl, hr, hb⟩; obtain ⟨Ar, xr, rfl, hS⟩ := HS.out.row hr hb; replace HS := Aside0.mk hS; clear hS hr hb) | (go_at_call 18; with_reducible refine (span_Union.calls Ap xp l0 Aq xq l1 U e1 _ (HS.out.c (A := Ap) (c := xp) (by repeat (first | exact List.mem_cons_self | refine List.mem_cons_of_mem _ ?_))) (HS.out.le (A := Ap) (c := xp) (by repeat (first | exact List.mem_cons_self | refine List.mem_cons_of_mem _ ?_))) (HS.out.c (A := Aq) (c := xq) (by repeat (first | exact List.mem_cons_self | refine List.mem_cons_of_mem _ ?_))) (HS.out.le (A := Aq) (c := xq) (by repeat (first | exact List.mem_cons_self | refine List.mem_cons_of_mem _ ?_))) hU.out).mono ?_; rintro e w1 ⟨v1, rfl, hr, hb⟩; obtain ⟨AU, xU, rfl, hS⟩ := HS.out.row hr hb; replace HS := Aside0.mk hS; clear hS hr hb) | (go_at_call 22; with_reducible refine (span_Meet.calls Ap xp l0 Aq xq l1 M e2 _ (HS.out.c (A := Ap) (c := xp) (by repeat (first | exact List.mem_cons_self | refine List.mem_cons_of_mem _ ?_))) (HS.out.le (A := Ap) (c := xp) (by repeat (first | exact List.mem_cons_self | refine List.mem_cons_of_mem _ ?_))) (HS.out.c (A := Aq) (c := xq) (by repeat (first | exact List.mem_cons_self | refine List.mem_cons_of_mem _ ?_))) (HS.out.le (A := Aq) (c := xq) (by repeat (first | exact List.mem_cons_self | refine List.mem_cons_of_mem _ ?_))) hM.out).mono ?_; rintro e w1 ⟨v1, rfl, hr, hb⟩; obtain ⟨AM, xM, rfl, hS⟩ := HS.out.row hr hb; replace HS := Aside0.mk hS; clear hS hr hb) | (go_at_call 19; with_reducible refine (span_Less.calls Ap xp l0 Aq xq l1 D e3 _ (HS.out.c (A := Ap) (c := xp) (by repeat (first | exact List.mem_cons_self | refine List.mem_cons_of_mem _ ?_))) (HS.out.le (A := Ap) (c := xp) (by repeat (first | exact List.mem_cons_self | refine List.mem_cons_of_mem _ ?_))) (HS.out.c (A := Aq) (c := xq) (by repeat (first | exact List.mem_cons_self | refine List.mem_cons_of_mem _ ?_))) (HS.out.le (A := Aq) (c := xq) (by repeat (first | exact List.mem_cons_self | refine List.mem_cons_of_mem _ ?_))) hD.out).mono ?_; rintro e w1 ⟨v1, rfl, hr, hb⟩; obtain ⟨AD, xD, rfl, hS⟩ := HS.out.row hr hb; replace HS := Aside0.mk hS; clear hS hr hb) | (go_at_call 23; with_reducible refine (span_Not.calls Ap xp l0 N 0 _ (HS.out.c (A := Ap) (c := xp) (by repeat (first | exact List.mem_cons_self | refine List.mem_cons_of_mem _ ?_))) (HS.out.le (A := Ap) (c := xp) (by repeat (first | exact List.mem_cons_self | refine List.mem_cons_of_mem _ ?_))) hN.out).mono ?_; rintro e w1 ⟨v1, rfl, hr, hb⟩; obtain ⟨AN, xN, rfl, hS⟩ := HS.out.row hr hb; replace HS := Aside0.mk hS; clear hS hr hb) | (go_at_call 23; with_reducible refine (span_Not.calls Ar xr N O 0 _ (HS.out.c (A := Ar) (c := xr) (by repeat (first | exact List.mem_cons_self | refine List.mem_cons_of_mem _ ?_))) (HS.out.le (A := Ar) (c := xr) (by repeat (first | exact List.mem_cons_self | refine List.mem_cons_of_mem _ ?_))) hB.out).mono ?_; rintro e w1 ⟨v1, rfl, hr, hb⟩; obtain ⟨AB, xB, rfl, hS⟩ := HS.out.row hr hb; replace HS := Aside0.mk hS; clear hS hr hb) | (go_at_call 16; with_reducible refine (span_Norm.calls Ap xp l0 O 0 _ (HS.out.c (A := Ap) (c := xp) (by repeat (first | exact List.mem_cons_self | refine List.mem_cons_of_mem _ ?_))) (HS.out.le (A := Ap) (c := xp) (by repeat (first | exact List.mem_cons_self | refine List.mem_cons_of_mem _ ?_))) hO.out).mono ?_; rintro e w1 ⟨v1, rfl, hr, hb⟩; obtain ⟨AO, xO, rfl, hS⟩ := HS.out.row hr hb; replace HS := Aside0.mk hS; clear hS hr hb))
  go_upto_region 11 with (first | (go_at_call 15; with_reducible refine (portcullislaw02_same.calls K AB xB O AO xO O true _ (HS.out.c (A := AB) (c := xB) (by repeat (first | exact List.mem_cons_self | refine List.mem_cons_of_mem _ ?_))) (HS.out.le (A := AB) (c := xB) (by repeat (first | exact List.mem_cons_self | refine List.mem_cons_of_mem _ ?_))) (HS.out.c (A := AO) (c := xO) (by repeat (first | exact List.mem_cons_self | refine List.mem_cons_of_mem _ ?_))) (HS.out.le (A := AO) (c := xO) (by repeat (first | exact List.mem_cons_self | refine List.mem_cons_of_mem _ ?_))) hs.out).mono ?_; rintro e w1 ⟨rfl, hb⟩; replace HS := Aside0.mk (HS.out.low hb.below); clear hb) | (go_at_call 21; with_reducible refine (span_Count.calls K A0 x0 l0 nl0 _ (HS.out.c (A := A0) (c := x0) (by repeat (first | exact List.mem_cons_self | refine List.mem_cons_of_mem _ ?_))) (HS.out.le (A := A0) (c := x0) (by repeat (first | exact List.mem_cons_self | refine List.mem_cons_of_mem _ ?_))) hcl0.out).mono ?_; rintro e w1 ⟨rfl, hb⟩; replace HS := Aside0.mk (HS.out.low hb); clear hb) | (go_at_call 21; with_reducible refine (span_Count.calls K A1 x1 l1 nl1 _ (HS.out.c (A := A1) (c := x1) (by repeat (first | exact List.mem_cons_self | refine List.mem_cons_of_mem _ ?_))) (HS.out.le (A := A1) (c := x1) (by repeat (first | exact List.mem_cons_self | refine List.mem_cons_of_mem _ ?_))) hcl1.out).mono ?_; rintro e w1 ⟨rfl, hb⟩; replace HS := Aside0.mk (HS.out.low hb); clear hb) | (go_at_call 21; with_reducible refine (span_Count.calls K AU xU U nU _ (HS.out.c (A := AU) (c := xU) (by repeat (first | exact List.mem_cons_self | refine List.mem_cons_of_mem _ ?_))) (HS.out.le (A := AU) (c := xU) (by repeat (first | exact List.mem_cons_self | refine List.mem_cons_of_mem _ ?_))) hcU.out).mono ?_; rintro e w1 ⟨rfl, hb⟩; replace HS := Aside0.mk (HS.out.low hb); clear hb) | (go_at_call 21; with_reducible refine (span_Count.calls K AM xM M nM _ (HS.out.c (A := AM) (c := xM) (by repeat (first | exact List.mem_cons_self | refine List.mem_cons_of_mem _ ?_))) (HS.out.le (A := AM) (c := xM) (by repeat (first | exact List.mem_cons_self | refine List.mem_cons_of_mem _ ?_))) hcM.out).mono ?_; rintro e w1 ⟨rfl, hb⟩; replace HS := Aside0.mk (HS.out.low hb); clear hb) | (go_at_call 21; with_reducible refine (span_Count.calls K AD xD D nD _ (HS.out.c (A := AD) (c := xD) (by repeat (first | exact List.mem_cons_self | refine List.mem_cons_of_mem _ ?_))) (HS.out.le (A := AD) (c := xD) (by repeat (first | exact List.mem_cons_self | refine List.mem_cons_of_mem _ ?_))) hcD.out).mono ?_; rintro e w1 ⟨rfl, hb⟩; replace HS := Aside0.mk (HS.out.low hb); clear hb) | (go_at_call 21; with_reducible refine (span_Count.calls K AN xN N nN _ (HS.out.c (A := AN) (c := xN) (by repeat (first | exact List.mem_cons_self | refine List.mem_cons_of_mem _ ?_))) (HS.out.le (A := AN) (c := xN) (by repeat (first | exact List.mem_cons_self | refine List.mem_cons_of_mem _ ?_))) hcN.out).mono ?_; rintro e w1 ⟨rfl, hb⟩; replace HS := Aside0.mk (HS.out.low hb); clear hb))
  clear hkl0 hkl1 hpl0 hpl1 hpN hU hM hD hN hB hO hs hcl0 hcl1 hcU hcM hcD hcN z1 z2 z3 z4 g0 g0' g1 g1' g2 g2'
  go_wp2_with fail
  go_loopw [19] (fun v19 wi => ∃ i : Nat, v19 = .int .i64 (i : Int) ∧ i ≤ l2.length ∧ (∃ LL, Aside0 (St w wi LL) ∧ (A0, x0, l0) ∈ LL ∧ (A1, x1, l1) ∈ LL ∧ (AU, xU, U) ∈ LL ∧ (AM, xM, M) ∈ LL ∧ (AD, xD, D) ∈ LL ∧ (AN, xN, N) ∈ LL)) (fun v19 _ => l2.length - (intOf v19).toNat)
  case atStart => exact ⟨0, rfl, Nat.zero_le _, _, HS, (by repeat (first | exact List.mem_cons_self | refine List.mem_cons_of_mem _ ?_)), (by repeat (first | exact List.mem_cons_self | refine List.mem_cons_of_mem _ ?_)), (by repeat (first | exact List.mem_cons_self | refine List.mem_cons_of_mem _ ?_)), (by repeat (first | exact List.mem_cons_self | refine List.mem_cons_of_mem _ ?_)), (by repeat (first | exact List.mem_cons_self | refine List.mem_cons_of_mem _ ?_)), (by repeat (first | exact List.mem_cons_self | refine List.mem_cons_of_mem _ ?_))⟩
  case round =>
    clear HS
    obtain ⟨i, rfl, hi, LL, HS, m0, m1, mU, mM, mD, mN⟩ := hrel
    have hwr : IntKind.i64.wrap ((i : Int) + 1) = (i : Int) + 1 := by rw [i64_w, IntWalk.wrap64_in _ (by have := hq2.out; omega)]
    by_cases hlt : i < l2.length
    · have k1 : decide ((i : Int) < (l2.length : Int)) = true := decide_eq_true (by omega)
      have k2 : decide (i < l2.length) = true := decide_eq_true hlt
      obtain ⟨ad, e, hx⟩ := Kd.at_int (Kd.C_below HI.out HS.out.bel) (i : Int) (by omega) (by omega)
      subst e
      rw [Int.toNat_natCast] at hx
      generalize rd l2 (i : Int) = r at hx
      have fl0 := Aside0.mk (h0.out r)
      have fl1 := Aside0.mk (h1.out r)
      have fU := Aside0.mk (h2.out r)
      have fM := Aside0.mk (h3.out r)
      have fD := Aside0.mk (h4.out r)
      have fN := Aside0.mk (h5.out r)
      have h7 := h6.out r
      generalize hasL l0 r = x at fl0 fU fM fD fN h7
      generalize hasL l1 r = y at fl1 fU fM fD h7
      by_cases hr : 0 ≤ r ∧ r ≤ 1114111
      · have q1 : decide (0 ≤ r) = true := decide_eq_true hr.1
        have q2 : decide (r ≤ 1114111) = true := decide_eq_true hr.2
        rw [decide_eq_true hr] at fN
        clear h7 hr
        cases x <;> cases y
        all_goals
          go_wp2_with (first | (go_at_call 20; with_reducible refine (span_Has.calls A0 x0 l0 _ _ _ (HS.out.c (A := A0) (c := x0) (by assumption)) (HS.out.le (A := A0) (c := x0) (by assumption)) fl0.out).mono ?_; rintro e w1 ⟨rfl, hb⟩; replace HS := Aside0.mk (HS.out.low hb); clear hb) | (go_at_call 20; with_reducible refine (span_Has.calls A1 x1 l1 _ _ _ (HS.out.c (A := A1) (c := x1) (by assumption)) (HS.out.le (A := A1) (c := x1) (by assumption)) fl1.out).mono ?_; rintro e w1 ⟨rfl, hb⟩; replace HS := Aside0.mk (HS.out.low hb); clear hb) | (go_at_call 20; with_reducible refine (span_Has.calls AU xU U _ _ _ (HS.out.c (A := AU) (c := xU) (by assumption)) (HS.out.le (A := AU) (c := xU) (by assumption)) fU.out).mono ?_; rintro e w1 ⟨rfl, hb⟩; replace HS := Aside0.mk (HS.out.low hb); clear hb) | (go_at_call 20; with_reducible refine (span_Has.calls AM xM M _ _ _ (HS.out.c (A := AM) (c := xM) (by assumption)) (HS.out.le (A := AM) (c := xM) (by assumption)) fM.out).mono ?_; rintro e w1 ⟨rfl, hb⟩; replace HS := Aside0.mk (HS.out.low hb); clear hb) | (go_at_call 20; with_reducible refine (span_Has.calls AD xD D _ _ _ (HS.out.c (A := AD) (c := xD) (by assumption)) (HS.out.le (A := AD) (c := xD) (by assumption)) fD.out).mono ?_; rintro e w1 ⟨rfl, hb⟩; replace HS := Aside0.mk (HS.out.low hb); clear hb) | (go_at_call 20; with_reducible refine (span_Has.calls AN xN N _ _ _ (HS.out.c (A := AN) (c := xN) (by assumption)) (HS.out.le (A := AN) (c := xN) (by assumption)) fN.out).mono ?_; rintro e w1 ⟨rfl, hb⟩; replace HS := Aside0.mk (HS.out.low hb); clear hb))
          exact ⟨⟨i + 1, by go_num, by omega, LL, HS, m0, m1, mU, mM, mD, mN⟩, by simp [intOf]; omega⟩
      · obtain ⟨rfl, rfl⟩ := h7 hr
        rw [decide_eq_false hr] at fN
        by_cases hr0 : 0 ≤ r
        · have q1 : decide (0 ≤ r) = true := decide_eq_true hr0
          have q2 : decide (r ≤ 1114111) = false := decide_eq_false (fun e => hr ⟨hr0, e⟩)
          clear h7 hr hr0
          go_wp2_with (first | (go_at_call 20; with_reducible refine (span_Has.calls A0 x0 l0 _ _ _ (HS.out.c (A := A0) (c := x0) (by assumption)) (HS.out.le (A := A0) (c := x0) (by assumption)) fl0.out).mono ?_; rintro e w1 ⟨rfl, hb⟩; replace HS := Aside0.mk (HS.out.low hb); clear hb) | (go_at_call 20; with_reducible refine (span_Has.calls A1 x1 l1 _ _ _ (HS.out.c (A := A1) (c := x1) (by assumption)) (HS.out.le (A := A1) (c := x1) (by assumption)) fl1.out).mono ?_; rintro e w1 ⟨rfl, hb⟩; replace HS := Aside0.mk (HS.out.low hb); clear hb) | (go_at_call 20; with_reducible refine (span_Has.calls AU xU U _ _ _ (HS.out.c (A := AU) (c := xU) (by assumption)) (HS.out.le (A := AU) (c := xU) (by assumption)) fU.out).mono ?_; rintro e w1 ⟨rfl, hb⟩; replace HS := Aside0.mk (HS.out.low hb); clear hb) | (go_at_call 20; with_reducible refine (span_Has.calls AM xM M _ _ _ (HS.out.c (A := AM) (c := xM) (by assumption)) (HS.out.le (A := AM) (c := xM) (by assumption)) fM.out).mono ?_; rintro e w1 ⟨rfl, hb⟩; replace HS := Aside0.mk (HS.out.low hb); clear hb) | (go_at_call 20; with_reducible refine (span_Has.calls AD xD D _ _ _ (HS.out.c (A := AD) (c := xD) (by assumption)) (HS.out.le (A := AD) (c := xD) (by assumption)) fD.out).mono ?_; rintro e w1 ⟨rfl, hb⟩; replace HS := Aside0.mk (HS.out.low hb); clear hb) | (go_at_call 20; with_reducible refine (span_Has.calls AN xN N _ _ _ (HS.out.c (A := AN) (c := xN) (by assumption)) (HS.out.le (A := AN) (c := xN) (by assumption)) fN.out).mono ?_; rintro e w1 ⟨rfl, hb⟩; replace HS := Aside0.mk (HS.out.low hb); clear hb))
          exact ⟨⟨i + 1, by go_num, by omega, LL, HS, m0, m1, mU, mM, mD, mN⟩, by simp [intOf]; omega⟩
        · have q1 : decide (0 ≤ r) = false := decide_eq_false hr0
          clear h7 hr hr0
          go_wp2_with (first | (go_at_call 20; with_reducible refine (span_Has.calls A0 x0 l0 _ _ _ (HS.out.c (A := A0) (c := x0) (by assumption)) (HS.out.le (A := A0) (c := x0) (by assumption)) fl0.out).mono ?_; rintro e w1 ⟨rfl, hb⟩; replace HS := Aside0.mk (HS.out.low hb); clear hb) | (go_at_call 20; with_reducible refine (span_Has.calls A1 x1 l1 _ _ _ (HS.out.c (A := A1) (c := x1) (by assumption)) (HS.out.le (A := A1) (c := x1) (by assumption)) fl1.out).mono ?_; rintro e w1 ⟨rfl, hb⟩; replace HS := Aside0.mk (HS.out.low hb); clear hb) | (go_at_call 20; with_reducible refine (span_Has.calls AU xU U _ _ _ (HS.out.c (A := AU) (c := xU) (by assumption)) (HS.out.le (A := AU) (c := xU) (by assumption)) fU.out).mono ?_; rintro e w1 ⟨rfl, hb⟩; replace HS := Aside0.mk (HS.out.low hb); clear hb) | (go_at_call 20; with_reducible refine (span_Has.calls AM xM M _ _ _ (HS.out.c (A := AM) (c := xM) (by assumption)) (HS.out.le (A := AM) (c := xM) (by assumption)) fM.out).mono ?_; rintro e w1 ⟨rfl, hb⟩; replace HS := Aside0.mk (HS.out.low hb); clear hb) | (go_at_call 20; with_reducible refine (span_Has.calls AD xD D _ _ _ (HS.out.c (A := AD) (c := xD) (by assumption)) (HS.out.le (A := AD) (c := xD) (by assumption)) fD.out).mono ?_; rintro e w1 ⟨rfl, hb⟩; replace HS := Aside0.mk (HS.out.low hb); clear hb) | (go_at_call 20; with_reducible refine (span_Has.calls AN xN N _ _ _ (HS.out.c (A := AN) (c := xN) (by assumption)) (HS.out.le (A := AN) (c := xN) (by assumption)) fN.out).mono ?_; rintro e w1 ⟨rfl, hb⟩; replace HS := Aside0.mk (HS.out.low hb); clear hb))
          exact ⟨⟨i + 1, by go_num, by omega, LL, HS, m0, m1, mU, mM, mD, mN⟩, by simp [intOf]; omega⟩
    · have k1 : decide ((i : Int) < (l2.length : Int)) = false := decide_eq_false (by omega)
      have k2 : decide (i < l2.length) = false := decide_eq_false hlt
      go_wp2_with (first | (go_at_call 9; with_reducible refine (portcullislaw02_works.calls K true _ hw.out (WG.keep HG.out HS.out.bel)).mono ?_; rintro e w1 ⟨rfl, hb⟩; replace HS := Aside0.mk (HS.out.low hb); clear hb))
      go_ret
      exact ⟨rfl, HS.out.bel⟩
set_option maxRecDepth 8000 in
theorem sets_heavy (K : Nat) (l0 l1 : List Sp) (l2 : List Int) (k0 k1 : Int) (A0 A1 A2 : Option Addr) (x0 x1 c2 : Nat) (w : World) (hS : St w w [(A0, x0, l0), (A1, x1, l1)]) (hG : WG w)
    (hkl0 : l0.length ≤ 60 → span_Check.f K l0 = some k0) (hkl1 : l1.length ≤ 60 → span_Check.f K l1 = some k1) (hq : 60 < l0.length ∨ 60 < l1.length ∨ 200 < l2.length ∨ k0 ≠ 0 ∨ k1 ≠ 0) (hw : portcullislaw02_works.f K = some true) :
    Calls Tryd.prog 7 #[.slice A0 l0.length x0, .slice A1 l1.length x1, .slice A2 l2.length c2] w fun e w' => e = .returned (.bool true) ∧ Below w.heap.size w w' := by
  have HS := Aside0.mk hS
  have HG := Aside0.mk hG
  replace hw := Aside0.mk hw
  clear hS hG
  by_cases d0 : 60 < l0.length
  · have g0 : decide ((60 : Int) < (l0.length : Int)) = true := decide_eq_true (by omega)
    have g0' : decide (60 < l0.length) = true := decide_eq_true d0
    clear hq d0 hkl0 hkl1
    go_enter Tryd.func7, Tryd.ntmps7
    go_wp2_with (first | (go_at_call 9; with_reducible refine (portcullislaw02_works.calls K true _ hw.out (WG.keep HG.out HS.out.bel)).mono ?_; rintro e w1 ⟨rfl, hb⟩; replace HS := Aside0.mk (HS.out.low hb); clear hb))
    go_ret
    exact ⟨rfl, HS.out.bel⟩
  · have g0 : decide ((60 : Int) < (l0.length : Int)) = false := decide_eq_false (by omega)
    have g0' : decide (60 < l0.length) = false := decide_eq_false d0
    by_cases d1 : 60 < l1.length
    · have g1 : decide ((60 : Int) < (l1.length : Int)) = true := decide_eq_true (by omega)
      have g1' : decide (60 < l1.length) = true := decide_eq_true d1
      clear hq d0 d1 hkl0 hkl1
      go_enter Tryd.func7, Tryd.ntmps7
      go_wp2_with (first | (go_at_call 9; with_reducible refine (portcullislaw02_works.calls K true _ hw.out (WG.keep HG.out HS.out.bel)).mono ?_; rintro e w1 ⟨rfl, hb⟩; replace HS := Aside0.mk (HS.out.low hb); clear hb))
      go_ret
      exact ⟨rfl, HS.out.bel⟩
    · have g1 : decide ((60 : Int) < (l1.length : Int)) = false := decide_eq_false (by omega)
      have g1' : decide (60 < l1.length) = false := decide_eq_false d1
      by_cases d2 : 200 < l2.length
      · have g2 : decide ((200 : Int) < (l2.length : Int)) = true := decide_eq_true (by omega)
        have g2' : decide (200 < l2.length) = true := decide_eq_true d2
        clear hq d0 d1 d2 hkl0 hkl1
        go_enter Tryd.func7, Tryd.ntmps7
        go_wp2_with (first | (go_at_call 9; with_reducible refine (portcullislaw02_works.calls K true _ hw.out (WG.keep HG.out HS.out.bel)).mono ?_; rintro e w1 ⟨rfl, hb⟩; replace HS := Aside0.mk (HS.out.low hb); clear hb))
        go_ret
        exact ⟨rfl, HS.out.bel⟩
      · have g2 : decide ((200 : Int) < (l2.length : Int)) = false := decide_eq_false (by omega)
        have g2' : decide (200 < l2.length) = false := decide_eq_false d2
        replace hkl0 := Aside0.mk (hkl0 (by omega))
        replace hkl1 := Aside0.mk (hkl1 (by omega))
        by_cases d3 : k0 = 0
        · have g3 : (k0 != 0) = false := by rw [d3]; rfl
          subst d3
          have d4 : k1 ≠ 0 := by omega
          have g4 : (k1 != 0) = true := bne_iff_ne.2 d4
          have g5 : (k1 == 0) = false := beq_eq_false_iff_ne.2 d4
          clear hq d0 d1 d2 d4 g3
          go_enter Tryd.func7, Tryd.ntmps7
          go_wp2_with (first | (go_at_call 17; with_reducible refine (span_Check.calls K A0 x0 l0 _ _ (HS.out.c (A := A0) (c := x0) (by repeat (first | exact List.mem_cons_self | refine List.mem_cons_of_mem _ ?_))) (HS.out.le (A := A0) (c := x0) (by repeat (first | exact List.mem_cons_self | refine List.mem_cons_of_mem _ ?_))) hkl0.out).mono ?_; rintro e w1 ⟨rfl, hb⟩; replace HS := Aside0.mk (HS.out.low hb); clear hb) | (go_at_call 17; with_reducible refine (span_Check.calls K A1 x1 l1 _ _ (HS.out.c (A := A1) (c := x1) (by repeat (first | exact List.mem_cons_self | refine List.mem_cons_of_mem _ ?_))) (HS.out.le (A := A1) (c := x1) (by repeat (first | exact List.mem_cons_self | refine List.mem_cons_of_mem _ ?_))) hkl1.out).mono ?_; rintro e w1 ⟨rfl, hb⟩; replace HS := Aside0.mk (HS.out.low hb); clear hb) | (go_at_call 9; with_reducible refine (portcullislaw02_works.calls K true _ hw.out (WG.keep HG.out HS.out.bel)).mono ?_; rintro e w1 ⟨rfl, hb⟩; replace HS := Aside0.mk (HS.out.low hb); clear hb))
          go_ret
          exact ⟨rfl, HS.out.bel⟩
        · have g3 : (k0 != 0) = true := bne_iff_ne.2 d3
          have g4 : (k0 == 0) = false := beq_eq_false_iff_ne.2 d3
          clear hq d0 d1 d2 d3
          go_enter Tryd.func7, Tryd.ntmps7
          go_wp2_with (first | (go_at_call 17; with_reducible refine (span_Check.calls K A0 x0 l0 _ _ (HS.out.c (A := A0) (c := x0) (by repeat (first | exact List.mem_cons_self | refine List.mem_cons_of_mem _ ?_))) (HS.out.le (A := A0) (c := x0) (by repeat (first | exact List.mem_cons_self | refine List.mem_cons_of_mem _ ?_))) hkl0.out).mono ?_; rintro e w1 ⟨rfl, hb⟩; replace HS := Aside0.mk (HS.out.low hb); clear hb) | (go_at_call 17; with_reducible refine (span_Check.calls K A1 x1 l1 _ _ (HS.out.c (A := A1) (c := x1) (by repeat (first | exact List.mem_cons_self | refine List.mem_cons_of_mem _ ?_))) (HS.out.le (A := A1) (c := x1) (by repeat (first | exact List.mem_cons_self | refine List.mem_cons_of_mem _ ?_))) hkl1.out).mono ?_; rintro e w1 ⟨rfl, hb⟩; replace HS := Aside0.mk (HS.out.low hb); clear hb) | (go_at_call 9; with_reducible refine (portcullislaw02_works.calls K true _ hw.out (WG.keep HG.out HS.out.bel)).mono ?_; rintro e w1 ⟨rfl, hb⟩; replace HS := Aside0.mk (HS.out.low hb); clear hb))
          go_ret
          exact ⟨rfl, HS.out.bel⟩
theorem portcullislaw02_SpanSets.walk (_P : True) (a0 : Option Addr) (len0 cap0 : Nat) (l0 : List Sp) (a1 : Option Addr) (len1 cap1 : Nat) (l1 : List Sp) (a2 : Option Addr) (len2 cap2 : Nat) (z2 : List Int) (w : World) (w0 : RowS w a0 len0 cap0 l0) (w1 : RowS w a1 len1 cap1 l1) (w2 : (a2 = none ∧ len2 = 0 ∧ cap2 = 0 ∧ z2 = []) ∨ ∃ x, a2 = some x ∧ len2 ≤ cap2 ∧ cap2 ≤ maxLen ∧ z2.length = cap2 ∧ (∀ i, i < z2.length → w.cell? (x.add i) = some (.int .i32 (z2.getD i 0))) ∧ ∀ n ∈ z2, (Lit.int .i32 n).wf = true) (y2 : len2 * 4 ≤ 140737488351232) (hG : WG w) :
    Calls Tryd.prog 7 #[.slice a0 len0 cap0, .slice a1 len1 cap1, .slice a2 len2 cap2] w fun e w' => e = .returned (.bool true) ∧ Below w.heap.size w w' := by
  obtain ⟨hr0, rfl, hc0, hy0, hw0⟩ := w0
  obtain ⟨hr1, rfl, hc1, hy1, hw1⟩ := w1
  obtain ⟨l2, rfl, hr2, hm2, hw2, hc2⟩ := ReadsInt.ofRowC w2
  have hI : Kd.C (Kd.int .i32) w a2 l2.length l2 := Kd.C_of_reads (d := (0 : Int)) (h1 := fun _ => rfl) hr2
  have hS : St w w [(a0, cap0, l0), (a1, cap1, l1)] := St.start w _ (fun x hx => by
    rcases List.mem_cons.1 hx with rfl | hx
    · exact ⟨hr0, hc0⟩
    · rw [List.mem_singleton.1 hx]; exact ⟨hr1, hc1⟩)
  obtain ⟨K6, h6⟩ := works_is
  have sck : ∀ l : List Sp, ∃ K1, ∀ K, K1 ≤ K → l.length ≤ 60 → span_Check.f K l = some (chk l) := fun l => by
    by_cases d : l.length ≤ 60
    · obtain ⟨K1, s1⟩ := scheck_is l (by omega)
      exact ⟨K1, fun K hK _ => s1 K hK⟩
    · exact ⟨0, fun K _ h => absurd h d⟩
  obtain ⟨K1, s1⟩ := sck l0
  obtain ⟨K2, s2⟩ := sck l1
  by_cases hq : 60 < l0.length ∨ 60 < l1.length ∨ 200 < l2.length ∨ chk l0 ≠ 0 ∨ chk l1 ≠ 0
  · exact sets_heavy (K1 + K2 + K6) l0 l1 l2 _ _ a0 a1 a2 cap0 cap1 cap2 w hS hG (s1 _ (by omega)) (s2 _ (by omega)) hq (h6 _ (by omega))
  · have q0 : l0.length ≤ 60 := by omega
    have q1 : l1.length ≤ 60 := by omega
    have q2 : l2.length ≤ 200 := by omega
    have k0 : chk l0 = 0 := by omega
    have k1 : chk l1 = 0 := by omega
    have s1' := fun K hK => s1 K hK q0
    have s2' := fun K hK => s2 K hK q1
    rw [k0] at s1'
    rw [k1] at s2'
    obtain ⟨_, ok0⟩ := chk_ok k0
    obtain ⟨_, ok1⟩ := chk_ok k1
    have hnil : ∀ s ∈ ([] : List Sp), okS s := fun s hs => (List.not_mem_nil hs).elim
    have lenb : ∀ c2 (a b : List Sp), a.length ≤ 200 → b.length ≤ 200 → (madeF c2 a b).length ≤ 1024 := fun c2 a b ha hb => by have := madeF_len c2 a b; omega
    have mk : ∀ c2 (a b : List Sp), a.length ≤ 200 → b.length ≤ 200 → chk a = 0 → chk b = 0 → madeR c2 a b = (madeF c2 a b, 0) := fun c2 a b ha hb ca cb => madeR_ok ca cb (lenb c2 a b ha hb)
    have mU := made_nf cUnion l0 l1 ok0 ok1
    have mM := made_nf cMeet l0 l1 ok0 ok1
    have mD := made_nf cLess l0 l1 ok0 ok1
    have mN := made_nf cNot l0 [] ok0 hnil
    have mO := made_nf cNorm l0 [] ok0 hnil
    have nlen := madeF_len cNot l0 []
    have ckN : chk (madeF cNot l0 []) = 0 := chk_of mN.1.1 (lenb _ _ _ (by omega) (by simp))
    have mB := made_nf cNot (madeF cNot l0 []) [] mN.1.1 hnil
    have rU := mk cUnion l0 l1 (by omega) (by omega) k0 k1
    have rM := mk cMeet l0 l1 (by omega) (by omega) k0 k1
    have rD := mk cLess l0 l1 (by omega) (by omega) k0 k1
    have rN := mk cNot l0 [] (by omega) (by simp) k0 chk_nil
    have rO := mk cNorm l0 [] (by omega) (by simp) k0 chk_nil
    have rB := mk cNot (madeF cNot l0 []) [] (by simp only [List.length_nil] at nlen; omega) (by simp) ckN chk_nil
    have rO1 := mk cNorm l1 [] (by omega) (by simp) k1 chk_nil
    have mO1 := made_nf cNorm l1 [] ok1 hnil
    have out0 : ∀ r, ¬ (0 ≤ r ∧ r ≤ 1114111) → hasL l0 r = false := fun r hr => hasL_out ok0 (by omega)
    have out1 : ∀ r, ¬ (0 ≤ r ∧ r ≤ 1114111) → hasL l1 r = false := fun r hr => hasL_out ok1 (by omega)
    have hBO : madeF cNot (madeF cNot l0 []) [] = madeF cNorm l0 [] := nf_unique _ _ mB.1 mO.1 (fun r => by
      rw [mB.2, mO.2]
      split
      · next hr => rw [mN.2, if_pos hr]; unfold cNot cNorm; cases hasL l0 r <;> rfl
      · rfl)
    rw [hBO] at rB
    have hU : ∀ r, hasL (madeF cUnion l0 l1) r = (hasL l0 r || hasL l1 r) := fun r => by
      rw [mU.2]
      split
      · rfl
      · next hr => rw [out0 r hr, out1 r hr]; rfl
    have hM : ∀ r, hasL (madeF cMeet l0 l1) r = (hasL l0 r && hasL l1 r) := fun r => by
      rw [mM.2]
      split
      · rfl
      · next hr => rw [out0 r hr]; rfl
    have hD : ∀ r, hasL (madeF cLess l0 l1) r = (hasL l0 r && !hasL l1 r) := fun r => by
      rw [mD.2]
      split
      · rfl
      · next hr => rw [out0 r hr]; rfl
    have hN : ∀ r, hasL (madeF cNot l0 []) r = (decide (0 ≤ r ∧ r ≤ 1114111) && !hasL l0 r) := fun r => by
      rw [mN.2]
      split
      · next hr => rw [decide_eq_true hr]; rfl
      · next hr => rw [decide_eq_false hr]; rfl
    have hO : ∀ r, hasL (madeF cNorm l0 []) r = hasL l0 r := fun r => by
      rw [mO.2]
      split
      · rfl
      · next hr => rw [out0 r hr]
    have hO1 : ∀ r, hasL (madeF cNorm l1 []) r = hasL l1 r := fun r => by
      rw [mO1.2]
      split
      · rfl
      · next hr => rw [out1 r hr]
    have lU := lenb cUnion l0 l1 (by omega) (by omega)
    have lM := lenb cMeet l0 l1 (by omega) (by omega)
    have lD := lenb cLess l0 l1 (by omega) (by omega)
    have lN := lenb cNot l0 [] (by omega) (by simp)
    have lO := lenb cNorm l0 [] (by omega) (by simp)
    -- the counts
    have ct : ∀ l : List Sp, Nf l → l.length ≤ 1024 → Ev (fun k => span_Count.f k l) (cntL l) := fun l hl hn => by
      have := count_is l (by omega)
      rw [madeR_self cNorm (fun x => rfl) l hl hn] at this
      exact this
    have ct0 := count_is l0 (by omega)
    have ct1 := count_is l1 (by omega)
    rw [rO] at ct0
    rw [rO1] at ct1
    obtain ⟨C0, c0⟩ := ct0
    obtain ⟨C1, c1⟩ := ct1
    obtain ⟨C2, c2⟩ := ct _ mU.1 lU
    obtain ⟨C3, c3⟩ := ct _ mM.1 lM
    obtain ⟨C4, c4⟩ := ct _ mD.1 lD
    obtain ⟨C5, c5⟩ := ct _ mN.1 lN
    obtain ⟨C6, c6⟩ := same_is (madeF cNorm l0 []) (by omega)
    obtain ⟨Q, hQ⟩ : ∃ Q : Nat, Q = 1114112 := ⟨_, rfl⟩
    have b0 := cntL_bound _ mO.1.1
    have b1 := cntL_bound _ mO1.1.1
    have bU := cntL_bound _ mU.1.1
    have bM := cntL_bound _ mM.1.1
    have bD := cntL_bound _ mD.1.1
    have bN := cntL_bound _ mN.1.1
    have lO1 := lenb cNorm l1 [] (by omega) (by simp)
    have s1 : cntL (madeF cNorm l0 []) + cntL (madeF cNot l0 []) = 1114112 := by
      rw [cnt_is Q hQ _ mO.1, cnt_is Q hQ _ mN.1]
      have := cntN_sum (f := fun r => hasL (madeF cNorm l0 []) r) (g := fun r => hasL (madeF cNot l0 []) r) (p := fun _ => true) (q := fun _ => false) Q (fun r hr => by
        rw [hO, hN, decide_eq_true (show 0 ≤ (r : Int) ∧ (r : Int) ≤ 1114111 by omega)]
        cases hasL l0 r <;> rfl)
      rw [cntN_true, cntN_false] at this
      omega
    have s2 : cntL (madeF cUnion l0 l1) + cntL (madeF cMeet l0 l1) = cntL (madeF cNorm l0 []) + cntL (madeF cNorm l1 []) := by
      rw [cnt_is Q hQ _ mU.1, cnt_is Q hQ _ mM.1, cnt_is Q hQ _ mO.1, cnt_is Q hQ _ mO1.1]
      exact cntN_sum Q (fun r hr => by
        rw [hU, hM, hO, hO1]
        cases hasL l0 r <;> cases hasL l1 r <;> rfl)
    have s3 : cntL (madeF cLess l0 l1) + cntL (madeF cMeet l0 l1) = cntL (madeF cNorm l0 []) := by
      rw [cnt_is Q hQ _ mD.1, cnt_is Q hQ _ mM.1, cnt_is Q hQ _ mO.1]
      have := cntN_sum (f := fun r => hasL (madeF cLess l0 l1) r) (g := fun r => hasL (madeF cMeet l0 l1) r) (p := fun r => hasL (madeF cNorm l0 []) r) (q := fun _ => false) Q (fun r hr => by
        rw [hD, hM, hO]
        cases hasL l0 r <;> cases hasL l1 r <;> rfl)
      rw [cntN_false] at this
      omega
    have fH : ∀ (l : List Sp), chk l = 0 → l.length ≤ 100000 → ∀ r, span_Has.f l r = some (hasL l r) := fun l hk hl r => by rw [hasF_is l r hl, hk]; rfl
    have ckU : chk (madeF cUnion l0 l1) = 0 := chk_of mU.1.1 lU
    have ckM : chk (madeF cMeet l0 l1) = 0 := chk_of mM.1.1 lM
    have ckD : chk (madeF cLess l0 l1) = 0 := chk_of mD.1.1 lD
    have wr : ∀ x : Int, -1 ≤ x → x ≤ 100000000000 → IntKind.i64.wrap x = x := fun x h1 h2 => by rw [i64_w]; exact w64b x h1 h2
    have hle : ∀ k, K1 + K2 + K6 + C0 + C1 + C2 + C3 + C4 + C5 + C6 = k → Calls Tryd.prog 7 #[.slice a0 l0.length cap0, .slice a1 l1.length cap1, .slice a2 l2.length cap2] w fun e w' => e = .returned (.bool true) ∧ Below w.heap.size w w' := fun k hk =>
      sets_way k l0 l1 (madeF cUnion l0 l1) (madeF cMeet l0 l1) (madeF cLess l0 l1) (madeF cNot l0 []) (madeF cNorm l0 []) l2 0 0 0 _ _ _ _ _ _ (cntL (madeF cNorm l0 []) + cntL (madeF cNorm l1 [])) a0 a1 a2 cap0 cap1 cap2 w hS hI hG q0 q1 q2 (s1' k (by omega)) (s2' k (by omega))
        (copied_is l0 (by omega)) (copied_is l1 (by omega)) (copied_is _ (by omega))
        (by unfold span_Union.f; rw [if_pos ⟨by omega, by omega⟩, rU]) (by unfold span_Meet.f; rw [if_pos ⟨by omega, by omega⟩, rM]) (by unfold span_Less.f; rw [if_pos ⟨by omega, by omega⟩, rD]) (by unfold span_Not.f; rw [if_pos (by omega), rN]) (by unfold span_Not.f; rw [if_pos (by omega), rB]) (by rw [snorm_is l0 (by omega), rO])
        (c6 k (by omega)) (c0 k (by omega)) (c1 k (by omega)) (c2 k (by omega)) (c3 k (by omega)) (c4 k (by omega)) (c5 k (by omega))
        (by rw [s1]; exact wr _ (by omega) (by omega)) (by rw [s2]; exact wr _ (by omega) (by omega)) (wr (cntL (madeF cNorm l0 []) + cntL (madeF cNorm l1 [])) (by omega) (by omega)) (by rw [s3]; exact wr _ (by omega) (by omega))
        (fH l0 k0 (by omega)) (fH l1 k1 (by omega)) (fun r => by rw [fH _ ckU (by omega) r, hU]) (fun r => by rw [fH _ ckM (by omega) r, hM]) (fun r => by rw [fH _ ckD (by omega) r, hD]) (fun r => by rw [fH _ ckN (by omega) r, hN])
        (fun r hr => ⟨out0 r hr, out1 r hr⟩) (h6 k (by omega))
    exact hle _ rfl
end Go.Proofs.YtikhoooiklkbiaaDoor.Pr
