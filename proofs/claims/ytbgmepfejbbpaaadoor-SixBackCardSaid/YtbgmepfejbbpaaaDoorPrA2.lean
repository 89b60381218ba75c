-- printed by this session's own driver (wip/pr.py) over the kit's printer. Not trusted: Lean checks it.
import Derived.Test.YtbgmepfejbbpaaaDoorPr0
namespace Go.Proofs.YtbgmepfejbbpaaaDoor.Pr
open Go.RowKit Go.Proofs.YtbgmepfejbbpaaaDoorW.PrintWords Go.Proofs.YtbgmepfejbbpaaaDoorW.PrintLast Go.Proofs.YtbgmepfejbbpaaaDoorW.PrintMore
attribute [local go_sem] max2_int min2_int max_two min_two max_three min_three max_four min_four   -- for this text's walks alone
set_option linter.unusedVariables false
set_option linter.unusedSimpArgs false

/-! ### portcullislaw11_hex: function 13 -/
mutual
def portcullislaw11_hex.j0 : Nat → Int → Bool → ByteArray → Option (ByteArray)
  | 0, _, _, _ => none
  | k + 1, x0, x2, x7 => portcullislaw11_hex.l0 k x0 x2 x7 (⟨#[]⟩ : ByteArray) 0
def portcullislaw11_hex.l0 : Nat → Int → Bool → ByteArray → ByteArray → Int → Option (ByteArray)
  | 0, _, _, _, _, _ => none
  | k + 1, x0, x2, x7, x8, x9 => if x8.toList = ([] : List UInt8) then (if 0 ≤ (Int.tmod x0 16) then (if (Int.tmod x0 16) ≤ (IntKind.u16.wrap ((Int.tmod x0 16) + 1)) then (if (IntKind.u16.wrap ((Int.tmod x0 16) + 1)) ≤ (x7.size : Int) then (if (x7.extract ((Int.tmod x0 16) : Int).toNat ((IntKind.u16.wrap ((Int.tmod x0 16) + 1)) : Int).toNat).size + x8.size ≤ 9223372036854775807 then (portcullislaw11_hex.l0 k (IntKind.u16.wrap (Int.tdiv x0 16)) x2 x7 ((x7.extract ((Int.tmod x0 16) : Int).toNat ((IntKind.u16.wrap ((Int.tmod x0 16) + 1)) : Int).toNat) ++ x8) (wrap64 (x9 + 1))) else (none)) else (none)) else (none)) else (none)) else (if x0 > 0 then (if 0 ≤ (Int.tmod x0 16) then (if (Int.tmod x0 16) ≤ (IntKind.u16.wrap ((Int.tmod x0 16) + 1)) then (if (IntKind.u16.wrap ((Int.tmod x0 16) + 1)) ≤ (x7.size : Int) then (if (x7.extract ((Int.tmod x0 16) : Int).toNat ((IntKind.u16.wrap ((Int.tmod x0 16) + 1)) : Int).toNat).size + x8.size ≤ 9223372036854775807 then (portcullislaw11_hex.l0 k (IntKind.u16.wrap (Int.tdiv x0 16)) x2 x7 ((x7.extract ((Int.tmod x0 16) : Int).toNat ((IntKind.u16.wrap ((Int.tmod x0 16) + 1)) : Int).toNat) ++ x8) (wrap64 (x9 + 1))) else (none)) else (none)) else (none)) else (none)) else (if x2 = true then (if x9 < 4 then (if 0 ≤ (Int.tmod x0 16) then (if (Int.tmod x0 16) ≤ (IntKind.u16.wrap ((Int.tmod x0 16) + 1)) then (if (IntKind.u16.wrap ((Int.tmod x0 16) + 1)) ≤ (x7.size : Int) then (if (x7.extract ((Int.tmod x0 16) : Int).toNat ((IntKind.u16.wrap ((Int.tmod x0 16) + 1)) : Int).toNat).size + x8.size ≤ 9223372036854775807 then (portcullislaw11_hex.l0 k (IntKind.u16.wrap (Int.tdiv x0 16)) x2 x7 ((x7.extract ((Int.tmod x0 16) : Int).toNat ((IntKind.u16.wrap ((Int.tmod x0 16) + 1)) : Int).toNat) ++ x8) (wrap64 (x9 + 1))) else (none)) else (none)) else (none)) else (none)) else (some x8)) else (some x8)))
end
def portcullislaw11_hex.f (k : Nat) (a0 : Int) (a1 : Bool) (a2 : Bool) : Option (ByteArray) := if a1 = true then (portcullislaw11_hex.j0 k a0 a2 (⟨#[48, 49, 50, 51, 52, 53, 54, 55, 56, 57, 65, 66, 67, 68, 69, 70]⟩ : ByteArray)) else (portcullislaw11_hex.j0 k a0 a2 (⟨#[48, 49, 50, 51, 52, 53, 54, 55, 56, 57, 97, 98, 99, 100, 101, 102]⟩ : ByteArray))
theorem portcullislaw11_hex.mono_l : ∀ k, (∀ y0 y1 y2, LeO (portcullislaw11_hex.j0 k y0 y1 y2) (portcullislaw11_hex.j0 (k + 1) y0 y1 y2)) ∧ (∀ y0 y1 y2 y3 y4, LeO (portcullislaw11_hex.l0 k y0 y1 y2 y3 y4) (portcullislaw11_hex.l0 (k + 1) y0 y1 y2 y3 y4))
  | 0 => ⟨fun _ _ _ r h => by simp [portcullislaw11_hex.j0] at h, fun _ _ _ _ _ r h => by simp [portcullislaw11_hex.l0] at h⟩
  | k + 1 => by
    obtain ⟨ih0, ih1⟩ := portcullislaw11_hex.mono_l k
    refine ⟨?_, ?_⟩
    · intro y0 y1 y2
      unfold portcullislaw11_hex.j0
      repeat' first
      | (with_reducible exact ih0 _ _ _)
      | (with_reducible exact ih1 _ _ _ _ _)
      | (with_reducible exact LeO.refl _)
      | (with_reducible exact LeO.none _)
      | (with_reducible refine LeO.ite ?_ ?_)
      | (with_reducible refine LeO.bind ?_ (fun _ => ?_))
      | exact ih0 _ _ _
      | exact ih1 _ _ _ _ _
      | exact LeO.none _
      | refine LeO.ite ?_ ?_
      | refine LeO.bind ?_ (fun _ => ?_)
    · intro y0 y1 y2 y3 y4
      unfold portcullislaw11_hex.l0
      repeat' first
      | (with_reducible exact ih0 _ _ _)
      | (with_reducible exact ih1 _ _ _ _ _)
      | (with_reducible exact LeO.refl _)
      | (with_reducible exact LeO.none _)
      | (with_reducible refine LeO.ite ?_ ?_)
      | (with_reducible refine LeO.bind ?_ (fun _ => ?_))
      | exact ih0 _ _ _
      | exact ih1 _ _ _ _ _
      | exact LeO.none _
      | refine LeO.ite ?_ ?_
      | refine LeO.bind ?_ (fun _ => ?_)
theorem portcullislaw11_hex.mono : ∀ a0 a1 a2 k, LeO (portcullislaw11_hex.f k a0 a1 a2) (portcullislaw11_hex.f (k + 1) a0 a1 a2) := by
  intro a0 a1 a2 k
  obtain ⟨ih0, ih1⟩ := portcullislaw11_hex.mono_l k
  unfold portcullislaw11_hex.f
  repeat' first
      | (with_reducible exact ih0 _ _ _)
      | (with_reducible exact ih1 _ _ _ _ _)
      | (with_reducible exact LeO.refl _)
      | (with_reducible exact LeO.none _)
      | (with_reducible refine LeO.ite ?_ ?_)
      | (with_reducible refine LeO.bind ?_ (fun _ => ?_))
      | exact ih0 _ _ _
      | exact ih1 _ _ _ _ _
      | exact LeO.none _
      | refine LeO.ite ?_ ?_
      | refine LeO.bind ?_ (fun _ => ?_)
set_option maxHeartbeats 8000000 in
set_option maxRecDepth 100000 in
theorem portcullislaw11_hex.calls (k : Nat) (a0 : Int) (a1 : Bool) (a2 : Bool) (r : ByteArray) (w : World) (h : portcullislaw11_hex.f k a0 a1 a2 = some r) :
    Calls Tryd.prog 13 #[.int .u16 a0, .bool a1, .bool a2] w fun e w' => e = .returned (.string r) ∧ Drawn0 w w' := by
  have H : (if a1 = true then (portcullislaw11_hex.j0 k a0 a2 (⟨#[48, 49, 50, 51, 52, 53, 54, 55, 56, 57, 65, 66, 67, 68, 69, 70]⟩ : ByteArray)) else (portcullislaw11_hex.j0 k a0 a2 (⟨#[48, 49, 50, 51, 52, 53, 54, 55, 56, 57, 97, 98, 99, 100, 101, 102]⟩ : ByteArray))) = some r := h
  clear h
  have HC4 := Aside0.mk H
  clear H
  go_enter Tryd.func13, Tryd.ntmps13
  go_upto_if 10 with (fail)
  go_cut [7] (fun v7 wc => ∃ (kq : Nat) (x7_3 : ByteArray), v7 = .string x7_3 ∧ Aside0 (portcullislaw11_hex.j0 kq a0 a2 x7_3 = some r) ∧ Aside0 (kq ≤ k) ∧ Drawn0 w wc)
  case first =>
    have H := HC4.out
    clear HC4
    by_cases c5 : a1 = true
    · subst c5
      have H1 : (portcullislaw11_hex.j0 k a0 a2 (⟨#[48, 49, 50, 51, 52, 53, 54, 55, 56, 57, 65, 66, 67, 68, 69, 70]⟩ : ByteArray)) = some r := by rw [if_pos rfl] at H; exact H
      clear H
      have H := H1
      clear H1
      have H' := Aside0.mk H
      clear H
      go_wp2
      go_meet
      case rel => exact ⟨_, ((⟨#[48, 49, 50, 51, 52, 53, 54, 55, 56, 57, 65, 66, 67, 68, 69, 70]⟩ : ByteArray)), (by first | rfl | (simp; done) | (simp [*]; done)), H', ⟨by first | omega | exact Nat.le_refl _⟩, by repeat (first | exact Drawn0.refl _ | apply Drawn0.step)⟩
    · replace c5 := Bool.eq_false_iff.mpr c5
      subst c5
      have H1 : (portcullislaw11_hex.j0 k a0 a2 (⟨#[48, 49, 50, 51, 52, 53, 54, 55, 56, 57, 97, 98, 99, 100, 101, 102]⟩ : ByteArray)) = some r := by rw [if_neg (show ¬ (false = true) by decide)] at H; exact H
      clear H
      have H := H1
      clear H1
      have H' := Aside0.mk H
      clear H
      go_wp2
      go_meet
      case rel => exact ⟨_, ((⟨#[48, 49, 50, 51, 52, 53, 54, 55, 56, 57, 97, 98, 99, 100, 101, 102]⟩ : ByteArray)), (by first | rfl | (simp; done) | (simp [*]; done)), H', ⟨by first | omega | exact Nat.le_refl _⟩, by repeat (first | exact Drawn0.refl _ | apply Drawn0.step)⟩
  case rest =>
    clear HC4
    try clear c1
    try clear p2
    try clear c5
    obtain ⟨kq, x7_3, rfl, HA, HJ3, ⟨mc3, rfl⟩⟩ := hcut
    cases kq with
    | zero => exact absurd HA.out (by simp [portcullislaw11_hex.j0])
    | succ kj3 =>
      have H := HA.out
      clear HA
      simp only [portcullislaw11_hex.j0] at H
      have H' := Aside0.mk H
      clear H
      go_wp2
      go_loopg [0, 8, 9] kj3 (fun kq v0 v8 v9 w' => ∃ (x0_2 : Int) (x8_2 : ByteArray) (x9_2 : Int), v0 = .int .u16 x0_2 ∧ v8 = .string x8_2 ∧ v9 = .int .i64 x9_2 ∧ Aside0 (portcullislaw11_hex.l0 kq x0_2 a2 x7_3 x8_2 x9_2 = some r) ∧ Aside0 (kq ≤ kj3) ∧ Drawn0 w w')
      case atStart => exact ⟨(a0), ((⟨#[]⟩ : ByteArray)), (0), (by first | rfl | (simp; done) | (simp [*]; done)), (by first | rfl | (simp; done) | (simp [*]; done)), (by first | rfl | (simp; done) | (simp [*]; done)), H', ⟨Nat.le_refl _⟩, by repeat (first | exact Drawn0.refl _ | apply Drawn0.step)⟩
      case round =>
        clear H'
        try clear c1
        try clear p2
        try clear c3
        try clear c5
        try clear p2
        obtain ⟨x0_2, x8_2, x9_2, rfl, rfl, rfl, HA, HK2, ⟨m2, rfl⟩⟩ := hrel
        cases gk with
        | zero => exact absurd HA.out (by simp [portcullislaw11_hex.l0])
        | succ k2 =>
          have H := HA.out
          clear HA
          simp only [portcullislaw11_hex.l0] at H
          by_cases c6 : x8_2.toList = ([] : List UInt8)
          · rw [if_pos c6] at H
            have c6b0 : (x8_2.toList == ([] : List UInt8)) = true := beq_iff_eq.mpr c6
            have c6b1 : (x8_2.toList != ([] : List UInt8)) = false := bne_eq_false_iff_eq.mpr c6
            clear c6
            obtain ⟨ji7, hji7⟩ : ∃ j_ : Int, (Int.tmod x0_2 16) = j_ := ⟨_, rfl⟩
            replace H : (if 0 ≤ (ji7) then (if (ji7) ≤ (IntKind.u16.wrap ((ji7) + 1)) then (if (IntKind.u16.wrap ((ji7) + 1)) ≤ (x7_3.size : Int) then (if (x7_3.extract ((ji7) : Int).toNat ((IntKind.u16.wrap ((ji7) + 1)) : Int).toNat).size + x8_2.size ≤ 9223372036854775807 then (portcullislaw11_hex.l0 k2 (IntKind.u16.wrap (Int.tdiv x0_2 16)) a2 x7_3 ((x7_3.extract ((ji7) : Int).toNat ((IntKind.u16.wrap ((ji7) + 1)) : Int).toNat) ++ x8_2) (wrap64 (x9_2 + 1))) else (none)) else (none)) else (none)) else (none)) = some r := by first | (rw [hji7] at H; exact H) | (simp only [hji7] at H ⊢; exact H)
            by_cases c8 : 0 ≤ (ji7)
            · rw [if_pos c8] at H
              have c8b0 := eq_true c8
              have c8b1 : decide (0 ≤ (ji7)) = true := decide_eq_true c8
              clear c8
              by_cases c9 : (ji7) ≤ (IntKind.u16.wrap ((ji7) + 1))
              · rw [if_pos c9] at H
                have c9b0 := eq_true c9
                have c9b1 : decide ((ji7) ≤ (IntKind.u16.wrap ((ji7) + 1))) = true := decide_eq_true c9
                by_cases c10 : (IntKind.u16.wrap ((ji7) + 1)) ≤ (x7_3.size : Int)
                · rw [if_pos c10] at H
                  have c10b0 := eq_true c10
                  have c10b1 : decide ((IntKind.u16.wrap ((ji7) + 1)) ≤ (x7_3.size : Int)) = true := decide_eq_true c10
                  by_cases c11 : (x7_3.extract ((ji7) : Int).toNat ((IntKind.u16.wrap ((ji7) + 1)) : Int).toNat).size + x8_2.size ≤ 9223372036854775807
                  · rw [if_pos c11] at H
                    have c11b0 := eq_true c11
                    have c11b1 : decide ((x7_3.extract ((ji7) : Int).toNat ((IntKind.u16.wrap ((ji7) + 1)) : Int).toNat).size + x8_2.size ≤ 9223372036854775807) = true := decide_eq_true c11
                    try have c11b2 : (9223372036854775807 < (x7_3.extract ((ji7) : Int).toNat ((IntKind.u16.wrap ((ji7) + 1)) : Int).toNat).size + x8_2.size) = False := eq_false (Nat.not_lt.2 c11)
                    try (have c11s := c11; simp only [ByteArray.size_append] at c11s; have c11s0 := eq_true c11s; have c11s2 := eq_false (Nat.not_lt.2 c11s); clear c11s)
                    have H' := Aside0.mk H
                    clear H
                    go_wp2
                    go_roundg k2
                    case measure => have := HJ3.out; have := HK2.out; omega
                    case rel => exact ⟨(IntKind.u16.wrap (Int.tdiv x0_2 16)), ((x7_3.extract ((ji7) : Int).toNat ((IntKind.u16.wrap ((ji7) + 1)) : Int).toNat) ++ x8_2), (wrap64 (x9_2 + 1)), (by first | rfl | (simp; done) | (simp [*]; done)), (by first | rfl | (simp; done) | (simp only [← hji7] <;> (first | rfl | exact congrArg Value.bool (nE_ne _) | (simp; done))) | (simp [*]; done)), (by first | rfl | (simp; done) | (simp [*]; done)), H', ⟨by have := HJ3.out; have := HK2.out; omega⟩, by repeat (first | exact Drawn0.refl _ | apply Drawn0.step)⟩
                  · rw [if_neg c11] at H
                    exact absurd H (by simp)
                · rw [if_neg c10] at H
                  exact absurd H (by simp)
              · rw [if_neg c9] at H
                exact absurd H (by simp)
            · rw [if_neg c8] at H
              exact absurd H (by simp)
          · rw [if_neg c6] at H
            have c6b0 : (x8_2.toList == ([] : List UInt8)) = false := beq_eq_false_iff_ne.mpr c6
            have c6b1 : (x8_2.toList != ([] : List UInt8)) = true := bne_iff_ne.mpr c6
            by_cases c12 : x0_2 > 0
            · rw [if_pos c12] at H
              have c12b0 : decide (0 < x0_2) = true := decide_eq_true c12
              clear c12
              obtain ⟨ji13, hji13⟩ : ∃ j_ : Int, (Int.tmod x0_2 16) = j_ := ⟨_, rfl⟩
              replace H : (if 0 ≤ (ji13) then (if (ji13) ≤ (IntKind.u16.wrap ((ji13) + 1)) then (if (IntKind.u16.wrap ((ji13) + 1)) ≤ (x7_3.size : Int) then (if (x7_3.extract ((ji13) : Int).toNat ((IntKind.u16.wrap ((ji13) + 1)) : Int).toNat).size + x8_2.size ≤ 9223372036854775807 then (portcullislaw11_hex.l0 k2 (IntKind.u16.wrap (Int.tdiv x0_2 16)) a2 x7_3 ((x7_3.extract ((ji13) : Int).toNat ((IntKind.u16.wrap ((ji13) + 1)) : Int).toNat) ++ x8_2) (wrap64 (x9_2 + 1))) else (none)) else (none)) else (none)) else (none)) = some r := by first | (rw [hji13] at H; exact H) | (simp only [hji13] at H ⊢; exact H)
              by_cases c14 : 0 ≤ (ji13)
              · rw [if_pos c14] at H
                have c14b0 := eq_true c14
                have c14b1 : decide (0 ≤ (ji13)) = true := decide_eq_true c14
                clear c14
                by_cases c15 : (ji13) ≤ (IntKind.u16.wrap ((ji13) + 1))
                · rw [if_pos c15] at H
                  have c15b0 := eq_true c15
                  have c15b1 : decide ((ji13) ≤ (IntKind.u16.wrap ((ji13) + 1))) = true := decide_eq_true c15
                  by_cases c16 : (IntKind.u16.wrap ((ji13) + 1)) ≤ (x7_3.size : Int)
                  · rw [if_pos c16] at H
                    have c16b0 := eq_true c16
                    have c16b1 : decide ((IntKind.u16.wrap ((ji13) + 1)) ≤ (x7_3.size : Int)) = true := decide_eq_true c16
                    by_cases c17 : (x7_3.extract ((ji13) : Int).toNat ((IntKind.u16.wrap ((ji13) + 1)) : Int).toNat).size + x8_2.size ≤ 9223372036854775807
                    · rw [if_pos c17] at H
                      have c17b0 := eq_true c17
                      have c17b1 : decide ((x7_3.extract ((ji13) : Int).toNat ((IntKind.u16.wrap ((ji13) + 1)) : Int).toNat).size + x8_2.size ≤ 9223372036854775807) = true := decide_eq_true c17
                      try have c17b2 : (9223372036854775807 < (x7_3.extract ((ji13) : Int).toNat ((IntKind.u16.wrap ((ji13) + 1)) : Int).toNat).size + x8_2.size) = False := eq_false (Nat.not_lt.2 c17)
                      try (have c17s := c17; simp only [ByteArray.size_append] at c17s; have c17s0 := eq_true c17s; have c17s2 := eq_false (Nat.not_lt.2 c17s); clear c17s)
                      have H' := Aside0.mk H
                      clear H
                      go_wp2
                      go_roundg k2
                      case measure => have := HJ3.out; have := HK2.out; omega
                      case rel => exact ⟨(IntKind.u16.wrap (Int.tdiv x0_2 16)), ((x7_3.extract ((ji13) : Int).toNat ((IntKind.u16.wrap ((ji13) + 1)) : Int).toNat) ++ x8_2), (wrap64 (x9_2 + 1)), (by first | rfl | (simp; done) | (simp [*]; done)), (by first | rfl | (simp; done) | (simp only [← hji13] <;> (first | rfl | exact congrArg Value.bool (nE_ne _) | (simp; done))) | (simp [*]; done)), (by first | rfl | (simp; done) | (simp [*]; done)), H', ⟨by have := HJ3.out; have := HK2.out; omega⟩, by repeat (first | exact Drawn0.refl _ | apply Drawn0.step)⟩
                    · rw [if_neg c17] at H
                      exact absurd H (by simp)
                  · rw [if_neg c16] at H
                    exact absurd H (by simp)
                · rw [if_neg c15] at H
                  exact absurd H (by simp)
              · rw [if_neg c14] at H
                exact absurd H (by simp)
            · rw [if_neg c12] at H
              have c12b0 : decide (0 < x0_2) = false := decide_eq_false c12
              clear c12
              by_cases c18 : a2 = true
              · subst c18
                have H1 : (if x9_2 < 4 then (if 0 ≤ (Int.tmod x0_2 16) then (if (Int.tmod x0_2 16) ≤ (IntKind.u16.wrap ((Int.tmod x0_2 16) + 1)) then (if (IntKind.u16.wrap ((Int.tmod x0_2 16) + 1)) ≤ (x7_3.size : Int) then (if (x7_3.extract ((Int.tmod x0_2 16) : Int).toNat ((IntKind.u16.wrap ((Int.tmod x0_2 16) + 1)) : Int).toNat).size + x8_2.size ≤ 9223372036854775807 then (portcullislaw11_hex.l0 k2 (IntKind.u16.wrap (Int.tdiv x0_2 16)) true x7_3 ((x7_3.extract ((Int.tmod x0_2 16) : Int).toNat ((IntKind.u16.wrap ((Int.tmod x0_2 16) + 1)) : Int).toNat) ++ x8_2) (wrap64 (x9_2 + 1))) else (none)) else (none)) else (none)) else (none)) else (some x8_2)) = some r := by rw [if_pos rfl] at H; exact H
                clear H
                have H := H1
                clear H1
                by_cases c19 : x9_2 < 4
                · rw [if_pos c19] at H
                  have c19b0 : decide (x9_2 < 4) = true := decide_eq_true c19
                  clear c19
                  obtain ⟨ji20, hji20⟩ : ∃ j_ : Int, (Int.tmod x0_2 16) = j_ := ⟨_, rfl⟩
                  replace H : (if 0 ≤ (ji20) then (if (ji20) ≤ (IntKind.u16.wrap ((ji20) + 1)) then (if (IntKind.u16.wrap ((ji20) + 1)) ≤ (x7_3.size : Int) then (if (x7_3.extract ((ji20) : Int).toNat ((IntKind.u16.wrap ((ji20) + 1)) : Int).toNat).size + x8_2.size ≤ 9223372036854775807 then (portcullislaw11_hex.l0 k2 (IntKind.u16.wrap (Int.tdiv x0_2 16)) true x7_3 ((x7_3.extract ((ji20) : Int).toNat ((IntKind.u16.wrap ((ji20) + 1)) : Int).toNat) ++ x8_2) (wrap64 (x9_2 + 1))) else (none)) else (none)) else (none)) else (none)) = some r := by first | (rw [hji20] at H; exact H) | (simp only [hji20] at H ⊢; exact H)
                  by_cases c21 : 0 ≤ (ji20)
                  · rw [if_pos c21] at H
                    have c21b0 := eq_true c21
                    have c21b1 : decide (0 ≤ (ji20)) = true := decide_eq_true c21
                    clear c21
                    by_cases c22 : (ji20) ≤ (IntKind.u16.wrap ((ji20) + 1))
                    · rw [if_pos c22] at H
                      have c22b0 := eq_true c22
                      have c22b1 : decide ((ji20) ≤ (IntKind.u16.wrap ((ji20) + 1))) = true := decide_eq_true c22
                      by_cases c23 : (IntKind.u16.wrap ((ji20) + 1)) ≤ (x7_3.size : Int)
                      · rw [if_pos c23] at H
                        have c23b0 := eq_true c23
                        have c23b1 : decide ((IntKind.u16.wrap ((ji20) + 1)) ≤ (x7_3.size : Int)) = true := decide_eq_true c23
                        by_cases c24 : (x7_3.extract ((ji20) : Int).toNat ((IntKind.u16.wrap ((ji20) + 1)) : Int).toNat).size + x8_2.size ≤ 9223372036854775807
                        · rw [if_pos c24] at H
                          have c24b0 := eq_true c24
                          have c24b1 : decide ((x7_3.extract ((ji20) : Int).toNat ((IntKind.u16.wrap ((ji20) + 1)) : Int).toNat).size + x8_2.size ≤ 9223372036854775807) = true := decide_eq_true c24
                          try have c24b2 : (9223372036854775807 < (x7_3.extract ((ji20) : Int).toNat ((IntKind.u16.wrap ((ji20) + 1)) : Int).toNat).size + x8_2.size) = False := eq_false (Nat.not_lt.2 c24)
                          try (have c24s := c24; simp only [ByteArray.size_append] at c24s; have c24s0 := eq_true c24s; have c24s2 := eq_false (Nat.not_lt.2 c24s); clear c24s)
                          have H' := Aside0.mk H
                          clear H
                          go_wp2
                          go_roundg k2
                          case measure => have := HJ3.out; have := HK2.out; omega
                          case rel => exact ⟨(IntKind.u16.wrap (Int.tdiv x0_2 16)), ((x7_3.extract ((ji20) : Int).toNat ((IntKind.u16.wrap ((ji20) + 1)) : Int).toNat) ++ x8_2), (wrap64 (x9_2 + 1)), (by first | rfl | (simp; done) | (simp [*]; done)), (by first | rfl | (simp; done) | (simp only [← hji20] <;> (first | rfl | exact congrArg Value.bool (nE_ne _) | (simp; done))) | (simp [*]; done)), (by first | rfl | (simp; done) | (simp [*]; done)), H', ⟨by have := HJ3.out; have := HK2.out; omega⟩, by repeat (first | exact Drawn0.refl _ | apply Drawn0.step)⟩
                        · rw [if_neg c24] at H
                          exact absurd H (by simp)
                      · rw [if_neg c23] at H
                        exact absurd H (by simp)
                    · rw [if_neg c22] at H
                      exact absurd H (by simp)
                  · rw [if_neg c21] at H
                    exact absurd H (by simp)
                · rw [if_neg c19] at H
                  have c19b0 : decide (x9_2 < 4) = false := decide_eq_false c19
                  clear c19
                  obtain rfl := Option.some.inj H
                  go_wp2
                  go_ret
                  exact ⟨by first | rfl | (simp; done) | (simp [*]; done), by repeat (first | exact Drawn0.refl _ | apply Drawn0.step)⟩
              · replace c18 := Bool.eq_false_iff.mpr c18
                subst c18
                have H1 : (some x8_2) = some r := by rw [if_neg (show ¬ (false = true) by decide)] at H; exact H
                clear H
                have H := H1
                clear H1
                obtain rfl := Option.some.inj H
                go_wp2
                go_ret
                exact ⟨by first | rfl | (simp; done) | (simp [*]; done), by repeat (first | exact Drawn0.refl _ | apply Drawn0.step)⟩

end Go.Proofs.YtbgmepfejbbpaaaDoor.Pr
