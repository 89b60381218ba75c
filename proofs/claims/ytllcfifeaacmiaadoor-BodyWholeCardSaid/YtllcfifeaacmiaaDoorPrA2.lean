-- printed by this session's own driver (wip/pr.py) over the kit's printer. Not trusted: Lean checks it.
import Derived.Test.YtllcfifeaacmiaaDoorPr0
import Derived.Test.YtllcfifeaacmiaaDoorPrA1
namespace Go.Proofs.YtllcfifeaacmiaaDoor.Pr
open Go.RowKit Go.Proofs.YtllcfifeaacmiaaDoorW.PrintWords Go.Proofs.YtllcfifeaacmiaaDoorW.PrintLast Go.Proofs.YtllcfifeaacmiaaDoorW.PrintMore
attribute [local go_sem] max2_int min2_int max_two min_two max_three min_three max_four min_four   -- for this text's walks alone
set_option linter.unusedVariables false
set_option linter.unusedSimpArgs false

/-! ### portcullisref20_begins: function 28 -/
mutual
def portcullisref20_begins.l0 : Nat → ByteArray → Int → Int → Option (Int × Bool × Bool)
  | 0, _, _, _ => none
  | k + 1, x0, x5, x6 => if x6 < (x0.size : Int) then (if 0 ≤ x6 then ((portcullisref20_digit.f k (bt x0 x6)).bind fun t109 => (portcullisref20_begins.j1 k x0 x5 x6 (decide (t109 ≥ 0)))) else (none)) else (portcullisref20_begins.j1 k x0 x5 x6 false)
def portcullisref20_begins.j1 : Nat → ByteArray → Int → Int → Bool → Option (Int × Bool × Bool)
  | 0, _, _, _, _ => none
  | k + 1, x0, x5, x6, x18 => if x18 = true then (if 0 ≤ x6 then (if x6 < (x0.size : Int) then ((portcullisref20_digit.f k (bt x0 x6)).bind fun t110 => (if (wrap64 (x6 + 1)) > 8 then (some (0, false, false)) else (portcullisref20_begins.l0 k x0 (wrap64 ((wrap64 (x5 * 16)) + t110)) (wrap64 (x6 + 1))))) else (none)) else (none)) else (if x6 = (x0.size : Int) then (some (x5, true, false)) else (if x6 = 0 then (some (0, false, false)) else (if 0 ≤ x6 then (if x6 < (x0.size : Int) then (if (bt x0 x6) = 59 then (portcullisref20_begins.l1 k x0 x5 (wrap64 (x6 + 1))) else (if x6 ≤ (x0.size : Int) then (if (x0.extract (x6 : Int).toNat x0.size).toList = ([] : List UInt8) then (some (x5, true, ((x0.extract (x6 : Int).toNat x0.size).toList == ([13, 10] : List UInt8)))) else (if (x0.extract (x6 : Int).toNat x0.size).toList = ([13] : List UInt8) then (some (x5, true, ((x0.extract (x6 : Int).toNat x0.size).toList == ([13, 10] : List UInt8)))) else (some (x5, ((x0.extract (x6 : Int).toNat x0.size).toList == ([13, 10] : List UInt8)), ((x0.extract (x6 : Int).toNat x0.size).toList == ([13, 10] : List UInt8)))))) else (none))) else (none)) else (none))))
def portcullisref20_begins.l1 : Nat → ByteArray → Int → Int → Option (Int × Bool × Bool)
  | 0, _, _, _ => none
  | k + 1, x0, x5, x6 => if x6 < (x0.size : Int) then (if 0 ≤ x6 then (if (bt x0 x6) ≥ 32 then (if (bt x0 x6) = 127 then (if x6 ≤ (x0.size : Int) then (if (x0.extract (x6 : Int).toNat x0.size).toList = ([] : List UInt8) then (some (x5, true, ((x0.extract (x6 : Int).toNat x0.size).toList == ([13, 10] : List UInt8)))) else (if (x0.extract (x6 : Int).toNat x0.size).toList = ([13] : List UInt8) then (some (x5, true, ((x0.extract (x6 : Int).toNat x0.size).toList == ([13, 10] : List UInt8)))) else (some (x5, ((x0.extract (x6 : Int).toNat x0.size).toList == ([13, 10] : List UInt8)), ((x0.extract (x6 : Int).toNat x0.size).toList == ([13, 10] : List UInt8)))))) else (none)) else (portcullisref20_begins.l1 k x0 x5 (wrap64 (x6 + 1)))) else (if (bt x0 x6) = 9 then (if (bt x0 x6) = 127 then (if x6 ≤ (x0.size : Int) then (if (x0.extract (x6 : Int).toNat x0.size).toList = ([] : List UInt8) then (some (x5, true, ((x0.extract (x6 : Int).toNat x0.size).toList == ([13, 10] : List UInt8)))) else (if (x0.extract (x6 : Int).toNat x0.size).toList = ([13] : List UInt8) then (some (x5, true, ((x0.extract (x6 : Int).toNat x0.size).toList == ([13, 10] : List UInt8)))) else (some (x5, ((x0.extract (x6 : Int).toNat x0.size).toList == ([13, 10] : List UInt8)), ((x0.extract (x6 : Int).toNat x0.size).toList == ([13, 10] : List UInt8)))))) else (none)) else (portcullisref20_begins.l1 k x0 x5 (wrap64 (x6 + 1)))) else (if x6 ≤ (x0.size : Int) then (if (x0.extract (x6 : Int).toNat x0.size).toList = ([] : List UInt8) then (some (x5, true, ((x0.extract (x6 : Int).toNat x0.size).toList == ([13, 10] : List UInt8)))) else (if (x0.extract (x6 : Int).toNat x0.size).toList = ([13] : List UInt8) then (some (x5, true, ((x0.extract (x6 : Int).toNat x0.size).toList == ([13, 10] : List UInt8)))) else (some (x5, ((x0.extract (x6 : Int).toNat x0.size).toList == ([13, 10] : List UInt8)), ((x0.extract (x6 : Int).toNat x0.size).toList == ([13, 10] : List UInt8)))))) else (none)))) else (none)) else (if 0 ≤ x6 then (if x6 ≤ (x0.size : Int) then (if (x0.extract (x6 : Int).toNat x0.size).toList = ([] : List UInt8) then (some (x5, true, ((x0.extract (x6 : Int).toNat x0.size).toList == ([13, 10] : List UInt8)))) else (if (x0.extract (x6 : Int).toNat x0.size).toList = ([13] : List UInt8) then (some (x5, true, ((x0.extract (x6 : Int).toNat x0.size).toList == ([13, 10] : List UInt8)))) else (some (x5, ((x0.extract (x6 : Int).toNat x0.size).toList == ([13, 10] : List UInt8)), ((x0.extract (x6 : Int).toNat x0.size).toList == ([13, 10] : List UInt8)))))) else (none)) else (none))
end
def portcullisref20_begins.f (k : Nat) (a0 : ByteArray) : Option (Int × Bool × Bool) := portcullisref20_begins.l0 k a0 0 0
theorem portcullisref20_begins.mono_l : ∀ k, (∀ y0 y1 y2, LeO (portcullisref20_begins.l0 k y0 y1 y2) (portcullisref20_begins.l0 (k + 1) y0 y1 y2)) ∧ (∀ y0 y1 y2 y3, LeO (portcullisref20_begins.j1 k y0 y1 y2 y3) (portcullisref20_begins.j1 (k + 1) y0 y1 y2 y3)) ∧ (∀ y0 y1 y2, LeO (portcullisref20_begins.l1 k y0 y1 y2) (portcullisref20_begins.l1 (k + 1) y0 y1 y2))
  | 0 => ⟨fun _ _ _ r h => by simp [portcullisref20_begins.l0] at h, fun _ _ _ _ r h => by simp [portcullisref20_begins.j1] at h, fun _ _ _ r h => by simp [portcullisref20_begins.l1] at h⟩
  | k + 1 => by
    obtain ⟨ih0, ih1, ih2⟩ := portcullisref20_begins.mono_l k
    refine ⟨?_, ?_, ?_⟩
    · intro y0 y1 y2
      unfold portcullisref20_begins.l0
      repeat' first
      | (with_reducible exact ih0 _ _ _)
      | (with_reducible exact ih1 _ _ _ _)
      | (with_reducible exact ih2 _ _ _)
      | (with_reducible exact portcullisref20_digit.mono _ _)
      | (with_reducible exact LeO.refl _)
      | (with_reducible exact LeO.none _)
      | (with_reducible refine LeO.ite ?_ ?_)
      | (with_reducible refine LeO.bind ?_ (fun _ => ?_))
      | exact ih0 _ _ _
      | exact ih1 _ _ _ _
      | exact ih2 _ _ _
      | exact portcullisref20_digit.mono _ _
      | exact LeO.none _
      | refine LeO.ite ?_ ?_
      | refine LeO.bind ?_ (fun _ => ?_)
    · intro y0 y1 y2 y3
      unfold portcullisref20_begins.j1
      repeat' first
      | (with_reducible exact ih0 _ _ _)
      | (with_reducible exact ih1 _ _ _ _)
      | (with_reducible exact ih2 _ _ _)
      | (with_reducible exact portcullisref20_digit.mono _ _)
      | (with_reducible exact LeO.refl _)
      | (with_reducible exact LeO.none _)
      | (with_reducible refine LeO.ite ?_ ?_)
      | (with_reducible refine LeO.bind ?_ (fun _ => ?_))
      | exact ih0 _ _ _
      | exact ih1 _ _ _ _
      | exact ih2 _ _ _
      | exact portcullisref20_digit.mono _ _
      | exact LeO.none _
      | refine LeO.ite ?_ ?_
      | refine LeO.bind ?_ (fun _ => ?_)
    · intro y0 y1 y2
      unfold portcullisref20_begins.l1
      repeat' first
      | (with_reducible exact ih0 _ _ _)
      | (with_reducible exact ih1 _ _ _ _)
      | (with_reducible exact ih2 _ _ _)
      | (with_reducible exact portcullisref20_digit.mono _ _)
      | (with_reducible exact LeO.refl _)
      | (with_reducible exact LeO.none _)
      | (with_reducible refine LeO.ite ?_ ?_)
      | (with_reducible refine LeO.bind ?_ (fun _ => ?_))
      | exact ih0 _ _ _
      | exact ih1 _ _ _ _
      | exact ih2 _ _ _
      | exact portcullisref20_digit.mono _ _
      | exact LeO.none _
      | refine LeO.ite ?_ ?_
      | refine LeO.bind ?_ (fun _ => ?_)
theorem portcullisref20_begins.mono : ∀ a0 k, LeO (portcullisref20_begins.f k a0) (portcullisref20_begins.f (k + 1) a0) := by
  intro a0 k
  obtain ⟨ih0, ih1, ih2⟩ := portcullisref20_begins.mono_l k
  unfold portcullisref20_begins.f
  repeat' first
      | (with_reducible exact ih0 _ _ _)
      | (with_reducible exact ih1 _ _ _ _)
      | (with_reducible exact ih2 _ _ _)
      | (with_reducible exact portcullisref20_digit.mono _ _)
      | (with_reducible exact LeO.refl _)
      | (with_reducible exact LeO.none _)
      | (with_reducible refine LeO.ite ?_ ?_)
      | (with_reducible refine LeO.bind ?_ (fun _ => ?_))
      | exact ih0 _ _ _
      | exact ih1 _ _ _ _
      | exact ih2 _ _ _
      | exact portcullisref20_digit.mono _ _
      | exact LeO.none _
      | refine LeO.ite ?_ ?_
      | refine LeO.bind ?_ (fun _ => ?_)
set_option maxHeartbeats 8000000 in
set_option maxRecDepth 100000 in
theorem portcullisref20_begins.calls (k : Nat) (a0 : ByteArray) (r1 : Int) (r2 : Bool) (r3 : Bool) (w : World) (h : portcullisref20_begins.f k a0 = some (r1, r2, r3)) :
    Calls Tryd.prog 28 #[.string a0] w fun e w' => e = .returned (.tuple #[.int .i64 r1, .bool r2, .bool r3]) ∧ Drawn0 w w' := by
  have H : (portcullisref20_begins.l0 k a0 0 0) = some (r1, r2, r3) := h
  clear h
  have H' := Aside0.mk H
  clear H
  go_enter Tryd.func28, Tryd.ntmps28
  go_wp2
  go_loopg [5, 6] k (fun kq v5 v6 w' => ∃ (x5_1 : Int) (x6_1 : Int), v5 = .int .i64 x5_1 ∧ v6 = .int .i64 x6_1 ∧ Aside0 (portcullisref20_begins.l0 kq a0 x5_1 x6_1 = some (r1, r2, r3)) ∧ Aside0 (kq ≤ k) ∧ Drawn0 w w')
  case atStart => exact ⟨(0), (0), (by first | rfl | (simp; done) | (simp [*]; done)), (by first | rfl | (simp; done) | (simp [*]; done)), H', ⟨Nat.le_refl _⟩, by repeat (first | exact Drawn0.refl _ | apply Drawn0.step)⟩
  case round =>
    clear H'
    obtain ⟨x5_1, x6_1, rfl, rfl, HA, HK1, ⟨m1, rfl⟩⟩ := hrel
    cases gk with
    | zero => exact absurd HA.out (by simp [portcullisref20_begins.l0])
    | succ k1 =>
      have H := HA.out
      clear HA
      simp only [portcullisref20_begins.l0] at H
      have HC2 := Aside0.mk H
      clear H
      go_upto_region 3 with (fail)
      go_cut [18] (fun v18 wc => ∃ (kq : Nat) (x18_1 : Bool), v18 = .bool x18_1 ∧ Aside0 (portcullisref20_begins.j1 kq a0 x5_1 x6_1 x18_1 = some (r1, r2, r3)) ∧ Aside0 (kq ≤ k1) ∧ Drawn0 w wc)
      case first =>
        have H := HC2.out
        clear HC2
        by_cases c3 : x6_1 < (a0.size : Int)
        · rw [if_pos c3] at H
          have c3b0 : decide (x6_1 < (a0.size : Int)) = true := decide_eq_true c3
          clear c3
          (first | rw [c3b0] | (simp only [i64_w, i32_w]; rw [c3b0]) | skip)
          by_cases c4 : 0 ≤ x6_1
          · rw [if_pos c4] at H
            have c4b0 : decide (0 ≤ x6_1) = true := decide_eq_true c4
            clear c4
            replace H := Option.bind_eq_some_iff.mp H
            obtain ⟨t109, A60, H⟩ := H
            replace H : (portcullisref20_begins.j1 k1 a0 x5_1 x6_1 (decide (t109 ≥ 0))) = some (r1, r2, r3) := H
            have A6 := Aside0.mk A60
            clear A60
            have H' := Aside0.mk H
            clear H
            have p5 : 0 ≤ (x6_1 : Int) := of_decide_eq_true (by first | (with_reducible assumption) | assumption)
            have q5 : x6_1 < (a0.size : Int) := of_decide_eq_true (by first | (with_reducible assumption) | assumption)
            have hx5 := bt_at a0 x6_1
            replace p5 := eq_true p5
            replace q5 := eq_true q5
            go_wp2_with (first | (go_at_call 37; (with_reducible refine (portcullisref20_digit.calls k1 (bt a0 x6_1) t109 _ A6.out).mono ?_); rintro e w' ⟨rfl, ⟨nd, rfl⟩⟩))
            go_meet
            case rel => exact ⟨_, (decide (t109 ≥ 0)), (by first | rfl | (simp; done) | (simp [*]; done)), H', ⟨by have := HK1.out; first | omega | exact Nat.le_refl _⟩, by repeat (first | exact Drawn0.refl _ | apply Drawn0.step)⟩
          · rw [if_neg c4] at H
            exact absurd H (by simp)
        · rw [if_neg c3] at H
          have c3b0 : decide (x6_1 < (a0.size : Int)) = false := decide_eq_false c3
          clear c3
          (first | rw [c3b0] | (simp only [i64_w, i32_w]; rw [c3b0]) | skip)
          have H' := Aside0.mk H
          clear H
          go_wp2
          go_meet
          case rel => exact ⟨_, (false), (by first | rfl | (simp; done) | (simp [*]; done)), H', ⟨by have := HK1.out; first | omega | exact Nat.le_refl _⟩, by repeat (first | exact Drawn0.refl _ | apply Drawn0.step)⟩
      case rest =>
        clear HC2
        try clear c2
        try clear p2
        try clear c3
        try clear c3b0
        try clear c4
        try clear c4b0
        try clear p5
        try clear q5
        try clear hx5
        try clear p5
        try clear q5
        obtain ⟨kq, x18_1, rfl, HA, HJ1, ⟨mc1, rfl⟩⟩ := hcut
        cases kq with
        | zero => exact absurd HA.out (by simp [portcullisref20_begins.j1])
        | succ kj1 =>
          have H := HA.out
          clear HA
          simp only [portcullisref20_begins.j1] at H
          by_cases c7 : x18_1 = true
          · subst c7
            have H1 : (if 0 ≤ x6_1 then (if x6_1 < (a0.size : Int) then ((portcullisref20_digit.f kj1 (bt a0 x6_1)).bind fun t110 => (if (wrap64 (x6_1 + 1)) > 8 then (some (0, false, false)) else (portcullisref20_begins.l0 kj1 a0 (wrap64 ((wrap64 (x5_1 * 16)) + t110)) (wrap64 (x6_1 + 1))))) else (none)) else (none)) = some (r1, r2, r3) := by rw [if_pos rfl] at H; exact H
            clear H
            have H := H1
            clear H1
            by_cases c8 : 0 ≤ x6_1
            · rw [if_pos c8] at H
              have c8b0 : decide (0 ≤ x6_1) = true := decide_eq_true c8
              clear c8
              by_cases c9 : x6_1 < (a0.size : Int)
              · rw [if_pos c9] at H
                have c9b0 : decide (x6_1 < (a0.size : Int)) = true := decide_eq_true c9
                clear c9
                replace H := Option.bind_eq_some_iff.mp H
                obtain ⟨t110, A110, H⟩ := H
                replace H : (if (wrap64 (x6_1 + 1)) > 8 then (some (0, false, false)) else (portcullisref20_begins.l0 kj1 a0 (wrap64 ((wrap64 (x5_1 * 16)) + t110)) (wrap64 (x6_1 + 1)))) = some (r1, r2, r3) := H
                have A11 := Aside0.mk A110
                clear A110
                by_cases c12 : (wrap64 (x6_1 + 1)) > 8
                · rw [if_pos c12] at H
                  have c12b0 : decide (8 < (wrap64 (x6_1 + 1))) = true := decide_eq_true c12
                  clear c12
                  simp only [Option.some.injEq, Prod.mk.injEq] at H
                  obtain ⟨rfl, rfl, rfl⟩ := H
                  have p10 : 0 ≤ (x6_1 : Int) := of_decide_eq_true (by first | (with_reducible assumption) | assumption)
                  have q10 : x6_1 < (a0.size : Int) := of_decide_eq_true (by first | (with_reducible assumption) | assumption)
                  have hx10 := bt_at a0 x6_1
                  replace p10 := eq_true p10
                  replace q10 := eq_true q10
                  go_wp2_with (first | ((with_reducible refine gate_callee (f := 37) rfl ?_); refine goesL_ (some 24) rfl rfl Tryd.func37 (by kernel_rfl) rfl #[.int .u8 (bt a0 x6_1)] rfl (by (try simp only [List.map_toArray, List.map_cons, List.map_nil]); first | done | rfl | (simp only [List.length_drop, List.length_take]; rfl)) ?_; (with_reducible refine (portcullisref20_digit.calls kj1 (bt a0 x6_1) t110 _ A11.out).mono ?_); rintro e w' ⟨rfl, ⟨nd, rfl⟩⟩; refine ⟨_, rfl, ?_⟩))
                  go_ret3
                  exact ⟨by first | rfl | (simp; done) | (simp [*]; done), by repeat (first | exact Drawn0.refl _ | apply Drawn0.step)⟩
                · rw [if_neg c12] at H
                  have c12b0 : decide (8 < (wrap64 (x6_1 + 1))) = false := decide_eq_false c12
                  clear c12
                  have H' := Aside0.mk H
                  clear H
                  have p10 : 0 ≤ (x6_1 : Int) := of_decide_eq_true (by first | (with_reducible assumption) | assumption)
                  have q10 : x6_1 < (a0.size : Int) := of_decide_eq_true (by first | (with_reducible assumption) | assumption)
                  have hx10 := bt_at a0 x6_1
                  replace p10 := eq_true p10
                  replace q10 := eq_true q10
                  go_wp2_with (first | ((with_reducible refine gate_callee (f := 37) rfl ?_); refine goesL_ (some 24) rfl rfl Tryd.func37 (by kernel_rfl) rfl #[.int .u8 (bt a0 x6_1)] rfl (by (try simp only [List.map_toArray, List.map_cons, List.map_nil]); first | done | rfl | (simp only [List.length_drop, List.length_take]; rfl)) ?_; (with_reducible refine (portcullisref20_digit.calls kj1 (bt a0 x6_1) t110 _ A11.out).mono ?_); rintro e w' ⟨rfl, ⟨nd, rfl⟩⟩; refine ⟨_, rfl, ?_⟩))
                  go_roundg kj1
                  case measure => have := HK1.out; have := HJ1.out; omega
                  case rel => exact ⟨(wrap64 ((wrap64 (x5_1 * 16)) + t110)), (wrap64 (x6_1 + 1)), (by first | rfl | (simp; done) | (simp [*]; done)), (by first | rfl | (simp; done) | (simp [*]; done)), H', ⟨by have := HK1.out; have := HJ1.out; omega⟩, by repeat (first | exact Drawn0.refl _ | apply Drawn0.step)⟩
              · rw [if_neg c9] at H
                exact absurd H (by simp)
            · rw [if_neg c8] at H
              exact absurd H (by simp)
          · replace c7 := Bool.eq_false_iff.mpr c7
            subst c7
            have H1 : (if x6_1 = (a0.size : Int) then (some (x5_1, true, false)) else (if x6_1 = 0 then (some (0, false, false)) else (if 0 ≤ x6_1 then (if x6_1 < (a0.size : Int) then (if (bt a0 x6_1) = 59 then (portcullisref20_begins.l1 kj1 a0 x5_1 (wrap64 (x6_1 + 1))) else (if x6_1 ≤ (a0.size : Int) then (if (a0.extract (x6_1 : Int).toNat a0.size).toList = ([] : List UInt8) then (some (x5_1, true, ((a0.extract (x6_1 : Int).toNat a0.size).toList == ([13, 10] : List UInt8)))) else (if (a0.extract (x6_1 : Int).toNat a0.size).toList = ([13] : List UInt8) then (some (x5_1, true, ((a0.extract (x6_1 : Int).toNat a0.size).toList == ([13, 10] : List UInt8)))) else (some (x5_1, ((a0.extract (x6_1 : Int).toNat a0.size).toList == ([13, 10] : List UInt8)), ((a0.extract (x6_1 : Int).toNat a0.size).toList == ([13, 10] : List UInt8)))))) else (none))) else (none)) else (none)))) = some (r1, r2, r3) := by rw [if_neg (show ¬ (false = true) by decide)] at H; exact H
            clear H
            have H := H1
            clear H1
            by_cases c13 : x6_1 = (a0.size : Int)
            · rw [if_pos c13] at H
              have c13b0 : (x6_1 == (a0.size : Int)) = true := beq_iff_eq.mpr c13
              have c13b1 : (x6_1 != (a0.size : Int)) = false := bne_eq_false_iff_eq.mpr c13
              clear c13
              simp only [Option.some.injEq, Prod.mk.injEq] at H
              obtain ⟨rfl, rfl, rfl⟩ := H
              go_wp2
              go_ret3
              exact ⟨by first | rfl | (simp; done) | (simp [*]; done), by repeat (first | exact Drawn0.refl _ | apply Drawn0.step)⟩
            · rw [if_neg c13] at H
              have c13b0 : (x6_1 == (a0.size : Int)) = false := beq_eq_false_iff_ne.mpr c13
              have c13b1 : (x6_1 != (a0.size : Int)) = true := bne_iff_ne.mpr c13
              by_cases c14 : x6_1 = 0
              · rw [if_pos c14] at H
                have c14b0 : (x6_1 == 0) = true := beq_iff_eq.mpr c14
                have c14b1 : (x6_1 != 0) = false := bne_eq_false_iff_eq.mpr c14
                clear c14
                simp only [Option.some.injEq, Prod.mk.injEq] at H
                obtain ⟨rfl, rfl, rfl⟩ := H
                go_wp2
                go_ret3
                exact ⟨by first | rfl | (simp; done) | (simp [*]; done), by repeat (first | exact Drawn0.refl _ | apply Drawn0.step)⟩
              · rw [if_neg c14] at H
                have c14b0 : (x6_1 == 0) = false := beq_eq_false_iff_ne.mpr c14
                have c14b1 : (x6_1 != 0) = true := bne_iff_ne.mpr c14
                by_cases c15 : 0 ≤ x6_1
                · rw [if_pos c15] at H
                  have c15b0 : decide (0 ≤ x6_1) = true := decide_eq_true c15
                  clear c15
                  by_cases c16 : x6_1 < (a0.size : Int)
                  · rw [if_pos c16] at H
                    have c16b0 : decide (x6_1 < (a0.size : Int)) = true := decide_eq_true c16
                    clear c16
                    by_cases c18 : (bt a0 x6_1) = 59
                    · rw [if_pos c18] at H
                      have c18b0 : ((bt a0 x6_1) == 59) = true := beq_iff_eq.mpr c18
                      have c18b1 : ((bt a0 x6_1) != 59) = false := bne_eq_false_iff_eq.mpr c18
                      clear c18
                      have H' := Aside0.mk H
                      clear H
                      have p17 : 0 ≤ (x6_1 : Int) := of_decide_eq_true (by first | (with_reducible assumption) | assumption)
                      have q17 : x6_1 < (a0.size : Int) := of_decide_eq_true (by first | (with_reducible assumption) | assumption)
                      have hx17 := bt_at a0 x6_1
                      replace p17 := eq_true p17
                      replace q17 := eq_true q17
                      go_wp2
                      go_loopg [6] kj1 (fun kq v6 w' => ∃ (x6_3 : Int), v6 = .int .i64 x6_3 ∧ Aside0 (portcullisref20_begins.l1 kq a0 x5_1 x6_3 = some (r1, r2, r3)) ∧ Aside0 (kq ≤ kj1) ∧ Drawn0 w w')
                      case atStart => exact ⟨(wrap64 (x6_1 + 1)), (by first | rfl | (simp; done) | (simp [*]; done)), H', ⟨Nat.le_refl _⟩, by repeat (first | exact Drawn0.refl _ | apply Drawn0.step)⟩
                      case round =>
                        clear H'
                        try clear c1
                        try clear p1
                        try clear q1
                        try clear hx1
                        try clear c2
                        try clear p2
                        try clear c3
                        try clear c3b0
                        try clear c4
                        try clear c4b0
                        try clear p5
                        try clear q5
                        try clear hx5
                        try clear p6
                        try clear c7
                        try clear c8
                        try clear c8b0
                        try clear c9
                        try clear c9b0
                        try clear p10
                        try clear q10
                        try clear hx10
                        try clear c12
                        try clear c12b0
                        try clear c13
                        try clear c13b0
                        try clear c13b1
                        try clear c14
                        try clear c14b0
                        try clear c14b1
                        try clear c15
                        try clear c15b0
                        try clear c16
                        try clear c16b0
                        try clear p17
                        try clear q17
                        try clear hx17
                        try clear c18
                        try clear c18b0
                        try clear c18b1
                        try clear p10
                        try clear p17
                        try clear p2
                        try clear p5
                        try clear q10
                        try clear q17
                        try clear q5
                        obtain ⟨x6_3, rfl, HA, HK3, ⟨m3, rfl⟩⟩ := hrel
                        cases gk with
                        | zero => exact absurd HA.out (by simp [portcullisref20_begins.l1])
                        | succ k3 =>
                          have H := HA.out
                          clear HA
                          simp only [portcullisref20_begins.l1] at H
                          by_cases c19 : x6_3 < (a0.size : Int)
                          · rw [if_pos c19] at H
                            have c19b0 : decide (x6_3 < (a0.size : Int)) = true := decide_eq_true c19
                            clear c19
                            by_cases c20 : 0 ≤ x6_3
                            · rw [if_pos c20] at H
                              have c20b0 : decide (0 ≤ x6_3) = true := decide_eq_true c20
                              clear c20
                              by_cases c22 : (bt a0 x6_3) ≥ 32
                              · rw [if_pos c22] at H
                                have c22b0 : decide (32 ≤ (bt a0 x6_3)) = true := decide_eq_true c22
                                clear c22
                                by_cases c24 : (bt a0 x6_3) = 127
                                · rw [if_pos c24] at H
                                  have c24b0 : ((bt a0 x6_3) == 127) = true := beq_iff_eq.mpr c24
                                  have c24b1 : ((bt a0 x6_3) != 127) = false := bne_eq_false_iff_eq.mpr c24
                                  clear c24
                                  have c25b0 := eq_true (of_decide_eq_true (by first | (with_reducible assumption) | assumption) : 0 ≤ x6_3)
                                  by_cases c26 : x6_3 ≤ (a0.size : Int)
                                  · rw [if_pos c26] at H
                                    have c26b0 := eq_true c26
                                    have c26b1 : decide (x6_3 ≤ (a0.size : Int)) = true := decide_eq_true c26
                                    clear c26
                                    by_cases c27 : (a0.extract (x6_3 : Int).toNat a0.size).toList = ([] : List UInt8)
                                    · rw [if_pos c27] at H
                                      have c27b0 : ((a0.extract (x6_3 : Int).toNat a0.size).toList == ([] : List UInt8)) = true := beq_iff_eq.mpr c27
                                      have c27b1 : ((a0.extract (x6_3 : Int).toNat a0.size).toList != ([] : List UInt8)) = false := bne_eq_false_iff_eq.mpr c27
                                      clear c27
                                      simp only [Option.some.injEq, Prod.mk.injEq] at H
                                      obtain ⟨rfl, rfl, rfl⟩ := H
                                      have p21 : 0 ≤ (x6_3 : Int) := of_decide_eq_true (by first | (with_reducible assumption) | assumption)
                                      have q21 : x6_3 < (a0.size : Int) := of_decide_eq_true (by first | (with_reducible assumption) | assumption)
                                      have hx21 := bt_at a0 x6_3
                                      replace p21 := eq_true p21
                                      replace q21 := eq_true q21
                                      have p23 : 0 ≤ (x6_3 : Int) := of_decide_eq_true (by first | (with_reducible assumption) | assumption)
                                      have q23 : x6_3 < (a0.size : Int) := of_decide_eq_true (by first | (with_reducible assumption) | assumption)
                                      have hx23 := bt_at a0 x6_3
                                      replace p23 := eq_true p23
                                      replace q23 := eq_true q23
                                      go_wp2
                                      go_ret3
                                      exact ⟨by first | rfl | (simp; done) | (simp [*]; done), by repeat (first | exact Drawn0.refl _ | apply Drawn0.step)⟩
                                    · rw [if_neg c27] at H
                                      have c27b0 : ((a0.extract (x6_3 : Int).toNat a0.size).toList == ([] : List UInt8)) = false := beq_eq_false_iff_ne.mpr c27
                                      have c27b1 : ((a0.extract (x6_3 : Int).toNat a0.size).toList != ([] : List UInt8)) = true := bne_iff_ne.mpr c27
                                      by_cases c28 : (a0.extract (x6_3 : Int).toNat a0.size).toList = ([13] : List UInt8)
                                      · rw [if_pos c28] at H
                                        have c28b0 : ((a0.extract (x6_3 : Int).toNat a0.size).toList == ([13] : List UInt8)) = true := beq_iff_eq.mpr c28
                                        have c28b1 : ((a0.extract (x6_3 : Int).toNat a0.size).toList != ([13] : List UInt8)) = false := bne_eq_false_iff_eq.mpr c28
                                        clear c28
                                        simp only [Option.some.injEq, Prod.mk.injEq] at H
                                        obtain ⟨rfl, rfl, rfl⟩ := H
                                        have p21 : 0 ≤ (x6_3 : Int) := of_decide_eq_true (by first | (with_reducible assumption) | assumption)
                                        have q21 : x6_3 < (a0.size : Int) := of_decide_eq_true (by first | (with_reducible assumption) | assumption)
                                        have hx21 := bt_at a0 x6_3
                                        replace p21 := eq_true p21
                                        replace q21 := eq_true q21
                                        have p23 : 0 ≤ (x6_3 : Int) := of_decide_eq_true (by first | (with_reducible assumption) | assumption)
                                        have q23 : x6_3 < (a0.size : Int) := of_decide_eq_true (by first | (with_reducible assumption) | assumption)
                                        have hx23 := bt_at a0 x6_3
                                        replace p23 := eq_true p23
                                        replace q23 := eq_true q23
                                        go_wp2
                                        go_ret3
                                        exact ⟨by first | rfl | (simp; done) | (simp [*]; done), by repeat (first | exact Drawn0.refl _ | apply Drawn0.step)⟩
                                      · rw [if_neg c28] at H
                                        have c28b0 : ((a0.extract (x6_3 : Int).toNat a0.size).toList == ([13] : List UInt8)) = false := beq_eq_false_iff_ne.mpr c28
                                        have c28b1 : ((a0.extract (x6_3 : Int).toNat a0.size).toList != ([13] : List UInt8)) = true := bne_iff_ne.mpr c28
                                        simp only [Option.some.injEq, Prod.mk.injEq] at H
                                        obtain ⟨rfl, rfl, rfl⟩ := H
                                        have p21 : 0 ≤ (x6_3 : Int) := of_decide_eq_true (by first | (with_reducible assumption) | assumption)
                                        have q21 : x6_3 < (a0.size : Int) := of_decide_eq_true (by first | (with_reducible assumption) | assumption)
                                        have hx21 := bt_at a0 x6_3
                                        replace p21 := eq_true p21
                                        replace q21 := eq_true q21
                                        have p23 : 0 ≤ (x6_3 : Int) := of_decide_eq_true (by first | (with_reducible assumption) | assumption)
                                        have q23 : x6_3 < (a0.size : Int) := of_decide_eq_true (by first | (with_reducible assumption) | assumption)
                                        have hx23 := bt_at a0 x6_3
                                        replace p23 := eq_true p23
                                        replace q23 := eq_true q23
                                        go_wp2
                                        go_ret3
                                        exact ⟨by first | rfl | (simp; done) | (simp [*]; done), by repeat (first | exact Drawn0.refl _ | apply Drawn0.step)⟩
                                  · rw [if_neg c26] at H
                                    exact absurd H (by simp)
                                · rw [if_neg c24] at H
                                  have c24b0 : ((bt a0 x6_3) == 127) = false := beq_eq_false_iff_ne.mpr c24
                                  have c24b1 : ((bt a0 x6_3) != 127) = true := bne_iff_ne.mpr c24
                                  have H' := Aside0.mk H
                                  clear H
                                  have p21 : 0 ≤ (x6_3 : Int) := of_decide_eq_true (by first | (with_reducible assumption) | assumption)
                                  have q21 : x6_3 < (a0.size : Int) := of_decide_eq_true (by first | (with_reducible assumption) | assumption)
                                  have hx21 := bt_at a0 x6_3
                                  replace p21 := eq_true p21
                                  replace q21 := eq_true q21
                                  have p23 : 0 ≤ (x6_3 : Int) := of_decide_eq_true (by first | (with_reducible assumption) | assumption)
                                  have q23 : x6_3 < (a0.size : Int) := of_decide_eq_true (by first | (with_reducible assumption) | assumption)
                                  have hx23 := bt_at a0 x6_3
                                  replace p23 := eq_true p23
                                  replace q23 := eq_true q23
                                  go_wp2
                                  go_roundg k3
                                  case measure => have := HK1.out; have := HJ1.out; have := HK3.out; omega
                                  case rel => exact ⟨(wrap64 (x6_3 + 1)), (by first | rfl | (simp; done) | (simp [*]; done)), H', ⟨by have := HK1.out; have := HJ1.out; have := HK3.out; omega⟩, by repeat (first | exact Drawn0.refl _ | apply Drawn0.step)⟩
                              · rw [if_neg c22] at H
                                have c22b0 : decide (32 ≤ (bt a0 x6_3)) = false := decide_eq_false c22
                                clear c22
                                by_cases c30 : (bt a0 x6_3) = 9
                                · rw [if_pos c30] at H
                                  have c30b0 : ((bt a0 x6_3) == 9) = true := beq_iff_eq.mpr c30
                                  have c30b1 : ((bt a0 x6_3) != 9) = false := bne_eq_false_iff_eq.mpr c30
                                  clear c30
                                  by_cases c32 : (bt a0 x6_3) = 127
                                  · rw [if_pos c32] at H
                                    have c32b0 : ((bt a0 x6_3) == 127) = true := beq_iff_eq.mpr c32
                                    have c32b1 : ((bt a0 x6_3) != 127) = false := bne_eq_false_iff_eq.mpr c32
                                    clear c32
                                    have c33b0 := eq_true (of_decide_eq_true (by first | (with_reducible assumption) | assumption) : 0 ≤ x6_3)
                                    by_cases c34 : x6_3 ≤ (a0.size : Int)
                                    · rw [if_pos c34] at H
                                      have c34b0 := eq_true c34
                                      have c34b1 : decide (x6_3 ≤ (a0.size : Int)) = true := decide_eq_true c34
                                      clear c34
                                      by_cases c35 : (a0.extract (x6_3 : Int).toNat a0.size).toList = ([] : List UInt8)
                                      · rw [if_pos c35] at H
                                        have c35b0 : ((a0.extract (x6_3 : Int).toNat a0.size).toList == ([] : List UInt8)) = true := beq_iff_eq.mpr c35
                                        have c35b1 : ((a0.extract (x6_3 : Int).toNat a0.size).toList != ([] : List UInt8)) = false := bne_eq_false_iff_eq.mpr c35
                                        clear c35
                                        simp only [Option.some.injEq, Prod.mk.injEq] at H
                                        obtain ⟨rfl, rfl, rfl⟩ := H
                                        have p21 : 0 ≤ (x6_3 : Int) := of_decide_eq_true (by first | (with_reducible assumption) | assumption)
                                        have q21 : x6_3 < (a0.size : Int) := of_decide_eq_true (by first | (with_reducible assumption) | assumption)
                                        have hx21 := bt_at a0 x6_3
                                        replace p21 := eq_true p21
                                        replace q21 := eq_true q21
                                        have p29 : 0 ≤ (x6_3 : Int) := of_decide_eq_true (by first | (with_reducible assumption) | assumption)
                                        have q29 : x6_3 < (a0.size : Int) := of_decide_eq_true (by first | (with_reducible assumption) | assumption)
                                        have hx29 := bt_at a0 x6_3
                                        replace p29 := eq_true p29
                                        replace q29 := eq_true q29
                                        have p31 : 0 ≤ (x6_3 : Int) := of_decide_eq_true (by first | (with_reducible assumption) | assumption)
                                        have q31 : x6_3 < (a0.size : Int) := of_decide_eq_true (by first | (with_reducible assumption) | assumption)
                                        have hx31 := bt_at a0 x6_3
                                        replace p31 := eq_true p31
                                        replace q31 := eq_true q31
                                        go_wp2
                                        go_ret3
                                        exact ⟨by first | rfl | (simp; done) | (simp [*]; done), by repeat (first | exact Drawn0.refl _ | apply Drawn0.step)⟩
                                      · rw [if_neg c35] at H
                                        have c35b0 : ((a0.extract (x6_3 : Int).toNat a0.size).toList == ([] : List UInt8)) = false := beq_eq_false_iff_ne.mpr c35
                                        have c35b1 : ((a0.extract (x6_3 : Int).toNat a0.size).toList != ([] : List UInt8)) = true := bne_iff_ne.mpr c35
                                        by_cases c36 : (a0.extract (x6_3 : Int).toNat a0.size).toList = ([13] : List UInt8)
                                        · rw [if_pos c36] at H
                                          have c36b0 : ((a0.extract (x6_3 : Int).toNat a0.size).toList == ([13] : List UInt8)) = true := beq_iff_eq.mpr c36
                                          have c36b1 : ((a0.extract (x6_3 : Int).toNat a0.size).toList != ([13] : List UInt8)) = false := bne_eq_false_iff_eq.mpr c36
                                          clear c36
                                          simp only [Option.some.injEq, Prod.mk.injEq] at H
                                          obtain ⟨rfl, rfl, rfl⟩ := H
                                          have p21 : 0 ≤ (x6_3 : Int) := of_decide_eq_true (by first | (with_reducible assumption) | assumption)
                                          have q21 : x6_3 < (a0.size : Int) := of_decide_eq_true (by first | (with_reducible assumption) | assumption)
                                          have hx21 := bt_at a0 x6_3
                                          replace p21 := eq_true p21
                                          replace q21 := eq_true q21
                                          have p29 : 0 ≤ (x6_3 : Int) := of_decide_eq_true (by first | (with_reducible assumption) | assumption)
                                          have q29 : x6_3 < (a0.size : Int) := of_decide_eq_true (by first | (with_reducible assumption) | assumption)
                                          have hx29 := bt_at a0 x6_3
                                          replace p29 := eq_true p29
                                          replace q29 := eq_true q29
                                          have p31 : 0 ≤ (x6_3 : Int) := of_decide_eq_true (by first | (with_reducible assumption) | assumption)
                                          have q31 : x6_3 < (a0.size : Int) := of_decide_eq_true (by first | (with_reducible assumption) | assumption)
                                          have hx31 := bt_at a0 x6_3
                                          replace p31 := eq_true p31
                                          replace q31 := eq_true q31
                                          go_wp2
                                          go_ret3
                                          exact ⟨by first | rfl | (simp; done) | (simp [*]; done), by repeat (first | exact Drawn0.refl _ | apply Drawn0.step)⟩
                                        · rw [if_neg c36] at H
                                          have c36b0 : ((a0.extract (x6_3 : Int).toNat a0.size).toList == ([13] : List UInt8)) = false := beq_eq_false_iff_ne.mpr c36
                                          have c36b1 : ((a0.extract (x6_3 : Int).toNat a0.size).toList != ([13] : List UInt8)) = true := bne_iff_ne.mpr c36
                                          simp only [Option.some.injEq, Prod.mk.injEq] at H
                                          obtain ⟨rfl, rfl, rfl⟩ := H
                                          have p21 : 0 ≤ (x6_3 : Int) := of_decide_eq_true (by first | (with_reducible assumption) | assumption)
                                          have q21 : x6_3 < (a0.size : Int) := of_decide_eq_true (by first | (with_reducible assumption) | assumption)
                                          have hx21 := bt_at a0 x6_3
                                          replace p21 := eq_true p21
                                          replace q21 := eq_true q21
                                          have p29 : 0 ≤ (x6_3 : Int) := of_decide_eq_true (by first | (with_reducible assumption) | assumption)
                                          have q29 : x6_3 < (a0.size : Int) := of_decide_eq_true (by first | (with_reducible assumption) | assumption)
                                          have hx29 := bt_at a0 x6_3
                                          replace p29 := eq_true p29
                                          replace q29 := eq_true q29
                                          have p31 : 0 ≤ (x6_3 : Int) := of_decide_eq_true (by first | (with_reducible assumption) | assumption)
                                          have q31 : x6_3 < (a0.size : Int) := of_decide_eq_true (by first | (with_reducible assumption) | assumption)
                                          have hx31 := bt_at a0 x6_3
                                          replace p31 := eq_true p31
                                          replace q31 := eq_true q31
                                          go_wp2
                                          go_ret3
                                          exact ⟨by first | rfl | (simp; done) | (simp [*]; done), by repeat (first | exact Drawn0.refl _ | apply Drawn0.step)⟩
                                    · rw [if_neg c34] at H
                                      exact absurd H (by simp)
                                  · rw [if_neg c32] at H
                                    have c32b0 : ((bt a0 x6_3) == 127) = false := beq_eq_false_iff_ne.mpr c32
                                    have c32b1 : ((bt a0 x6_3) != 127) = true := bne_iff_ne.mpr c32
                                    have H' := Aside0.mk H
                                    clear H
                                    have p21 : 0 ≤ (x6_3 : Int) := of_decide_eq_true (by first | (with_reducible assumption) | assumption)
                                    have q21 : x6_3 < (a0.size : Int) := of_decide_eq_true (by first | (with_reducible assumption) | assumption)
                                    have hx21 := bt_at a0 x6_3
                                    replace p21 := eq_true p21
                                    replace q21 := eq_true q21
                                    have p29 : 0 ≤ (x6_3 : Int) := of_decide_eq_true (by first | (with_reducible assumption) | assumption)
                                    have q29 : x6_3 < (a0.size : Int) := of_decide_eq_true (by first | (with_reducible assumption) | assumption)
                                    have hx29 := bt_at a0 x6_3
                                    replace p29 := eq_true p29
                                    replace q29 := eq_true q29
                                    have p31 : 0 ≤ (x6_3 : Int) := of_decide_eq_true (by first | (with_reducible assumption) | assumption)
                                    have q31 : x6_3 < (a0.size : Int) := of_decide_eq_true (by first | (with_reducible assumption) | assumption)
                                    have hx31 := bt_at a0 x6_3
                                    replace p31 := eq_true p31
                                    replace q31 := eq_true q31
                                    go_wp2
                                    go_roundg k3
                                    case measure => have := HK1.out; have := HJ1.out; have := HK3.out; omega
                                    case rel => exact ⟨(wrap64 (x6_3 + 1)), (by first | rfl | (simp; done) | (simp [*]; done)), H', ⟨by have := HK1.out; have := HJ1.out; have := HK3.out; omega⟩, by repeat (first | exact Drawn0.refl _ | apply Drawn0.step)⟩
                                · rw [if_neg c30] at H
                                  have c30b0 : ((bt a0 x6_3) == 9) = false := beq_eq_false_iff_ne.mpr c30
                                  have c30b1 : ((bt a0 x6_3) != 9) = true := bne_iff_ne.mpr c30
                                  have c37b0 := eq_true (of_decide_eq_true (by first | (with_reducible assumption) | assumption) : 0 ≤ x6_3)
                                  by_cases c38 : x6_3 ≤ (a0.size : Int)
                                  · rw [if_pos c38] at H
                                    have c38b0 := eq_true c38
                                    have c38b1 : decide (x6_3 ≤ (a0.size : Int)) = true := decide_eq_true c38
                                    clear c38
                                    by_cases c39 : (a0.extract (x6_3 : Int).toNat a0.size).toList = ([] : List UInt8)
                                    · rw [if_pos c39] at H
                                      have c39b0 : ((a0.extract (x6_3 : Int).toNat a0.size).toList == ([] : List UInt8)) = true := beq_iff_eq.mpr c39
                                      have c39b1 : ((a0.extract (x6_3 : Int).toNat a0.size).toList != ([] : List UInt8)) = false := bne_eq_false_iff_eq.mpr c39
                                      clear c39
                                      simp only [Option.some.injEq, Prod.mk.injEq] at H
                                      obtain ⟨rfl, rfl, rfl⟩ := H
                                      have p21 : 0 ≤ (x6_3 : Int) := of_decide_eq_true (by first | (with_reducible assumption) | assumption)
                                      have q21 : x6_3 < (a0.size : Int) := of_decide_eq_true (by first | (with_reducible assumption) | assumption)
                                      have hx21 := bt_at a0 x6_3
                                      replace p21 := eq_true p21
                                      replace q21 := eq_true q21
                                      have p29 : 0 ≤ (x6_3 : Int) := of_decide_eq_true (by first | (with_reducible assumption) | assumption)
                                      have q29 : x6_3 < (a0.size : Int) := of_decide_eq_true (by first | (with_reducible assumption) | assumption)
                                      have hx29 := bt_at a0 x6_3
                                      replace p29 := eq_true p29
                                      replace q29 := eq_true q29
                                      go_wp2
                                      go_ret3
                                      exact ⟨by first | rfl | (simp; done) | (simp [*]; done), by repeat (first | exact Drawn0.refl _ | apply Drawn0.step)⟩
                                    · rw [if_neg c39] at H
                                      have c39b0 : ((a0.extract (x6_3 : Int).toNat a0.size).toList == ([] : List UInt8)) = false := beq_eq_false_iff_ne.mpr c39
                                      have c39b1 : ((a0.extract (x6_3 : Int).toNat a0.size).toList != ([] : List UInt8)) = true := bne_iff_ne.mpr c39
                                      by_cases c40 : (a0.extract (x6_3 : Int).toNat a0.size).toList = ([13] : List UInt8)
                                      · rw [if_pos c40] at H
                                        have c40b0 : ((a0.extract (x6_3 : Int).toNat a0.size).toList == ([13] : List UInt8)) = true := beq_iff_eq.mpr c40
                                        have c40b1 : ((a0.extract (x6_3 : Int).toNat a0.size).toList != ([13] : List UInt8)) = false := bne_eq_false_iff_eq.mpr c40
                                        clear c40
                                        simp only [Option.some.injEq, Prod.mk.injEq] at H
                                        obtain ⟨rfl, rfl, rfl⟩ := H
                                        have p21 : 0 ≤ (x6_3 : Int) := of_decide_eq_true (by first | (with_reducible assumption) | assumption)
                                        have q21 : x6_3 < (a0.size : Int) := of_decide_eq_true (by first | (with_reducible assumption) | assumption)
                                        have hx21 := bt_at a0 x6_3
                                        replace p21 := eq_true p21
                                        replace q21 := eq_true q21
                                        have p29 : 0 ≤ (x6_3 : Int) := of_decide_eq_true (by first | (with_reducible assumption) | assumption)
                                        have q29 : x6_3 < (a0.size : Int) := of_decide_eq_true (by first | (with_reducible assumption) | assumption)
                                        have hx29 := bt_at a0 x6_3
                                        replace p29 := eq_true p29
                                        replace q29 := eq_true q29
                                        go_wp2
                                        go_ret3
                                        exact ⟨by first | rfl | (simp; done) | (simp [*]; done), by repeat (first | exact Drawn0.refl _ | apply Drawn0.step)⟩
                                      · rw [if_neg c40] at H
                                        have c40b0 : ((a0.extract (x6_3 : Int).toNat a0.size).toList == ([13] : List UInt8)) = false := beq_eq_false_iff_ne.mpr c40
                                        have c40b1 : ((a0.extract (x6_3 : Int).toNat a0.size).toList != ([13] : List UInt8)) = true := bne_iff_ne.mpr c40
                                        simp only [Option.some.injEq, Prod.mk.injEq] at H
                                        obtain ⟨rfl, rfl, rfl⟩ := H
                                        have p21 : 0 ≤ (x6_3 : Int) := of_decide_eq_true (by first | (with_reducible assumption) | assumption)
                                        have q21 : x6_3 < (a0.size : Int) := of_decide_eq_true (by first | (with_reducible assumption) | assumption)
                                        have hx21 := bt_at a0 x6_3
                                        replace p21 := eq_true p21
                                        replace q21 := eq_true q21
                                        have p29 : 0 ≤ (x6_3 : Int) := of_decide_eq_true (by first | (with_reducible assumption) | assumption)
                                        have q29 : x6_3 < (a0.size : Int) := of_decide_eq_true (by first | (with_reducible assumption) | assumption)
                                        have hx29 := bt_at a0 x6_3
                                        replace p29 := eq_true p29
                                        replace q29 := eq_true q29
                                        go_wp2
                                        go_ret3
                                        exact ⟨by first | rfl | (simp; done) | (simp [*]; done), by repeat (first | exact Drawn0.refl _ | apply Drawn0.step)⟩
                                  · rw [if_neg c38] at H
                                    exact absurd H (by simp)
                            · rw [if_neg c20] at H
                              exact absurd H (by simp)
                          · rw [if_neg c19] at H
                            have c19b0 : decide (x6_3 < (a0.size : Int)) = false := decide_eq_false c19
                            clear c19
                            by_cases c41 : 0 ≤ x6_3
                            · rw [if_pos c41] at H
                              have c41b0 := eq_true c41
                              have c41b1 : decide (0 ≤ x6_3) = true := decide_eq_true c41
                              clear c41
                              by_cases c42 : x6_3 ≤ (a0.size : Int)
                              · rw [if_pos c42] at H
                                have c42b0 := eq_true c42
                                have c42b1 : decide (x6_3 ≤ (a0.size : Int)) = true := decide_eq_true c42
                                clear c42
                                by_cases c43 : (a0.extract (x6_3 : Int).toNat a0.size).toList = ([] : List UInt8)
                                · rw [if_pos c43] at H
                                  have c43b0 : ((a0.extract (x6_3 : Int).toNat a0.size).toList == ([] : List UInt8)) = true := beq_iff_eq.mpr c43
                                  have c43b1 : ((a0.extract (x6_3 : Int).toNat a0.size).toList != ([] : List UInt8)) = false := bne_eq_false_iff_eq.mpr c43
                                  clear c43
                                  simp only [Option.some.injEq, Prod.mk.injEq] at H
                                  obtain ⟨rfl, rfl, rfl⟩ := H
                                  go_wp2
                                  go_ret3
                                  exact ⟨by first | rfl | (simp; done) | (simp [*]; done), by repeat (first | exact Drawn0.refl _ | apply Drawn0.step)⟩
                                · rw [if_neg c43] at H
                                  have c43b0 : ((a0.extract (x6_3 : Int).toNat a0.size).toList == ([] : List UInt8)) = false := beq_eq_false_iff_ne.mpr c43
                                  have c43b1 : ((a0.extract (x6_3 : Int).toNat a0.size).toList != ([] : List UInt8)) = true := bne_iff_ne.mpr c43
                                  by_cases c44 : (a0.extract (x6_3 : Int).toNat a0.size).toList = ([13] : List UInt8)
                                  · rw [if_pos c44] at H
                                    have c44b0 : ((a0.extract (x6_3 : Int).toNat a0.size).toList == ([13] : List UInt8)) = true := beq_iff_eq.mpr c44
                                    have c44b1 : ((a0.extract (x6_3 : Int).toNat a0.size).toList != ([13] : List UInt8)) = false := bne_eq_false_iff_eq.mpr c44
                                    clear c44
                                    simp only [Option.some.injEq, Prod.mk.injEq] at H
                                    obtain ⟨rfl, rfl, rfl⟩ := H
                                    go_wp2
                                    go_ret3
                                    exact ⟨by first | rfl | (simp; done) | (simp [*]; done), by repeat (first | exact Drawn0.refl _ | apply Drawn0.step)⟩
                                  · rw [if_neg c44] at H
                                    have c44b0 : ((a0.extract (x6_3 : Int).toNat a0.size).toList == ([13] : List UInt8)) = false := beq_eq_false_iff_ne.mpr c44
                                    have c44b1 : ((a0.extract (x6_3 : Int).toNat a0.size).toList != ([13] : List UInt8)) = true := bne_iff_ne.mpr c44
                                    simp only [Option.some.injEq, Prod.mk.injEq] at H
                                    obtain ⟨rfl, rfl, rfl⟩ := H
                                    go_wp2
                                    go_ret3
                                    exact ⟨by first | rfl | (simp; done) | (simp [*]; done), by repeat (first | exact Drawn0.refl _ | apply Drawn0.step)⟩
                              · rw [if_neg c42] at H
                                exact absurd H (by simp)
                            · rw [if_neg c41] at H
                              exact absurd H (by simp)
                    · rw [if_neg c18] at H
                      have c18b0 : ((bt a0 x6_1) == 59) = false := beq_eq_false_iff_ne.mpr c18
                      have c18b1 : ((bt a0 x6_1) != 59) = true := bne_iff_ne.mpr c18
                      have c45b0 := eq_true (of_decide_eq_true (by first | (with_reducible assumption) | assumption) : 0 ≤ x6_1)
                      by_cases c46 : x6_1 ≤ (a0.size : Int)
                      · rw [if_pos c46] at H
                        have c46b0 := eq_true c46
                        have c46b1 : decide (x6_1 ≤ (a0.size : Int)) = true := decide_eq_true c46
                        clear c46
                        by_cases c47 : (a0.extract (x6_1 : Int).toNat a0.size).toList = ([] : List UInt8)
                        · rw [if_pos c47] at H
                          have c47b0 : ((a0.extract (x6_1 : Int).toNat a0.size).toList == ([] : List UInt8)) = true := beq_iff_eq.mpr c47
                          have c47b1 : ((a0.extract (x6_1 : Int).toNat a0.size).toList != ([] : List UInt8)) = false := bne_eq_false_iff_eq.mpr c47
                          clear c47
                          simp only [Option.some.injEq, Prod.mk.injEq] at H
                          obtain ⟨rfl, rfl, rfl⟩ := H
                          have p17 : 0 ≤ (x6_1 : Int) := of_decide_eq_true (by first | (with_reducible assumption) | assumption)
                          have q17 : x6_1 < (a0.size : Int) := of_decide_eq_true (by first | (with_reducible assumption) | assumption)
                          have hx17 := bt_at a0 x6_1
                          replace p17 := eq_true p17
                          replace q17 := eq_true q17
                          go_wp2
                          go_ret3
                          exact ⟨by first | rfl | (simp; done) | (simp [*]; done), by repeat (first | exact Drawn0.refl _ | apply Drawn0.step)⟩
                        · rw [if_neg c47] at H
                          have c47b0 : ((a0.extract (x6_1 : Int).toNat a0.size).toList == ([] : List UInt8)) = false := beq_eq_false_iff_ne.mpr c47
                          have c47b1 : ((a0.extract (x6_1 : Int).toNat a0.size).toList != ([] : List UInt8)) = true := bne_iff_ne.mpr c47
                          by_cases c48 : (a0.extract (x6_1 : Int).toNat a0.size).toList = ([13] : List UInt8)
                          · rw [if_pos c48] at H
                            have c48b0 : ((a0.extract (x6_1 : Int).toNat a0.size).toList == ([13] : List UInt8)) = true := beq_iff_eq.mpr c48
                            have c48b1 : ((a0.extract (x6_1 : Int).toNat a0.size).toList != ([13] : List UInt8)) = false := bne_eq_false_iff_eq.mpr c48
                            clear c48
                            simp only [Option.some.injEq, Prod.mk.injEq] at H
                            obtain ⟨rfl, rfl, rfl⟩ := H
                            have p17 : 0 ≤ (x6_1 : Int) := of_decide_eq_true (by first | (with_reducible assumption) | assumption)
                            have q17 : x6_1 < (a0.size : Int) := of_decide_eq_true (by first | (with_reducible assumption) | assumption)
                            have hx17 := bt_at a0 x6_1
                            replace p17 := eq_true p17
                            replace q17 := eq_true q17
                            go_wp2
                            go_ret3
                            exact ⟨by first | rfl | (simp; done) | (simp [*]; done), by repeat (first | exact Drawn0.refl _ | apply Drawn0.step)⟩
                          · rw [if_neg c48] at H
                            have c48b0 : ((a0.extract (x6_1 : Int).toNat a0.size).toList == ([13] : List UInt8)) = false := beq_eq_false_iff_ne.mpr c48
                            have c48b1 : ((a0.extract (x6_1 : Int).toNat a0.size).toList != ([13] : List UInt8)) = true := bne_iff_ne.mpr c48
                            simp only [Option.some.injEq, Prod.mk.injEq] at H
                            obtain ⟨rfl, rfl, rfl⟩ := H
                            have p17 : 0 ≤ (x6_1 : Int) := of_decide_eq_true (by first | (with_reducible assumption) | assumption)
                            have q17 : x6_1 < (a0.size : Int) := of_decide_eq_true (by first | (with_reducible assumption) | assumption)
                            have hx17 := bt_at a0 x6_1
                            replace p17 := eq_true p17
                            replace q17 := eq_true q17
                            go_wp2
                            go_ret3
                            exact ⟨by first | rfl | (simp; done) | (simp [*]; done), by repeat (first | exact Drawn0.refl _ | apply Drawn0.step)⟩
                      · rw [if_neg c46] at H
                        exact absurd H (by simp)
                  · rw [if_neg c16] at H
                    exact absurd H (by simp)
                · rw [if_neg c15] at H
                  exact absurd H (by simp)

end Go.Proofs.YtllcfifeaacmiaaDoor.Pr
