-- printed by this session's own driver (wip/pr.py) over the kit's printer. Not trusted: Lean checks it.
import Derived.Test.YtllcfifeaacmiaaDoorPr0
import Derived.Test.YtllcfifeaacmiaaDoorPrA3
import Derived.Test.YtllcfifeaacmiaaDoorPrB1
namespace Go.Proofs.YtllcfifeaacmiaaDoor.Pr
open Go.RowKit Go.Proofs.YtllcfifeaacmiaaDoorW.PrintWords Go.Proofs.YtllcfifeaacmiaaDoorW.PrintLast Go.Proofs.YtllcfifeaacmiaaDoorW.PrintMore
attribute [local go_sem] max2_int min2_int max_two min_two max_three min_three max_four min_four   -- for this text's walks alone
set_option linter.unusedVariables false
set_option linter.unusedSimpArgs false

/-! ### portcullisref20_tail: function 21 -/
mutual
def portcullisref20_tail.l0 : Nat → ByteArray → Int → Int → Int → Option (Int × Bool × Int)
  | 0, _, _, _, _ => none
  | k + 1, x0, x5, x6, x7 => if x7 < (x0.size : Int) then (if 0 ≤ x7 then (if (bt x0 x7) = 10 then (if 0 ≤ x5 then (if x5 ≤ (wrap64 (x7 + 1)) then (if (wrap64 (x7 + 1)) ≤ (x0.size : Int) then ((portcullisref19_Ends.f k (x0.extract (x5 : Int).toNat ((wrap64 (x7 + 1)) : Int).toNat)).bind fun t120 => (if t120 = true then (if 0 ≤ (wrap64 ((wrap64 ((wrap64 (x7 + 1)) - x5)) - 2)) then (if (wrap64 ((wrap64 ((wrap64 (x7 + 1)) - x5)) - 2)) ≤ ((x0.extract (x5 : Int).toNat ((wrap64 (x7 + 1)) : Int).toNat).size : Int) then (if ((x0.extract (x5 : Int).toNat ((wrap64 (x7 + 1)) : Int).toNat).extract 0 ((wrap64 ((wrap64 ((wrap64 (x7 + 1)) - x5)) - 2)) : Int).toNat).toList = ([] : List UInt8) then (some (wrap64 (x7 + 1), true, 0)) else (if (((x0.extract (x5 : Int).toNat ((wrap64 (x7 + 1)) : Int).toNat).extract 0 ((wrap64 ((wrap64 ((wrap64 (x7 + 1)) - x5)) - 2)) : Int).toNat).size : Int) > 4096 then (portcullisref20_tail.j1 k x0 (wrap64 (x7 + 1)) x6 x7 ((x0.extract (x5 : Int).toNat ((wrap64 (x7 + 1)) : Int).toNat).extract 0 ((wrap64 ((wrap64 ((wrap64 (x7 + 1)) - x5)) - 2)) : Int).toNat) true) else (portcullisref20_tail.j1 k x0 (wrap64 (x7 + 1)) x6 x7 ((x0.extract (x5 : Int).toNat ((wrap64 (x7 + 1)) : Int).toNat).extract 0 ((wrap64 ((wrap64 ((wrap64 (x7 + 1)) - x5)) - 2)) : Int).toNat) (decide (x6 ≥ 64))))) else (none)) else (none)) else (some (wrap64 (x7 + 1), false, 200)))) else (none)) else (none)) else (none)) else (if (wrap64 ((wrap64 (x7 + 1)) - x5)) > 4097 then (some (wrap64 (x7 + 1), false, 195)) else (portcullisref20_tail.l0 k x0 x5 x6 (wrap64 (x7 + 1))))) else (none)) else (some ((x0.size : Int), false, 0))
def portcullisref20_tail.j1 : Nat → ByteArray → Int → Int → Int → ByteArray → Bool → Option (Int × Bool × Int)
  | 0, _, _, _, _, _, _ => none
  | k + 1, x0, x5, x6, x7, x9, x56 => if x56 = true then (some (wrap64 (x7 + 1), false, 195)) else ((portcullisref19_Field.f k x9).bind fun bt121 => (if bt121.2.2 = true then (portcullisref20_tail.l0 k x0 x5 (wrap64 (x6 + 1)) (wrap64 (x7 + 1))) else (some (wrap64 (x7 + 1), false, 200))))
end
def portcullisref20_tail.f (k : Nat) (a0 : ByteArray) : Option (Int × Bool × Int) := portcullisref20_tail.l0 k a0 0 0 0
theorem portcullisref20_tail.mono_l : ∀ k, (∀ y0 y1 y2 y3, LeO (portcullisref20_tail.l0 k y0 y1 y2 y3) (portcullisref20_tail.l0 (k + 1) y0 y1 y2 y3)) ∧ (∀ y0 y1 y2 y3 y4 y5, LeO (portcullisref20_tail.j1 k y0 y1 y2 y3 y4 y5) (portcullisref20_tail.j1 (k + 1) y0 y1 y2 y3 y4 y5))
  | 0 => ⟨fun _ _ _ _ r h => by simp [portcullisref20_tail.l0] at h, fun _ _ _ _ _ _ r h => by simp [portcullisref20_tail.j1] at h⟩
  | k + 1 => by
    obtain ⟨ih0, ih1⟩ := portcullisref20_tail.mono_l k
    refine ⟨?_, ?_⟩
    · intro y0 y1 y2 y3
      unfold portcullisref20_tail.l0
      repeat' first
      | (with_reducible exact ih0 _ _ _ _)
      | (with_reducible exact ih1 _ _ _ _ _ _)
      | (with_reducible exact portcullisref19_Ends.mono _ _)
      | (with_reducible exact portcullisref19_Field.mono _ _)
      | (with_reducible exact LeO.refl _)
      | (with_reducible exact LeO.none _)
      | (with_reducible refine LeO.ite ?_ ?_)
      | (with_reducible refine LeO.bind ?_ (fun _ => ?_))
      | exact ih0 _ _ _ _
      | exact ih1 _ _ _ _ _ _
      | exact portcullisref19_Ends.mono _ _
      | exact portcullisref19_Field.mono _ _
      | exact LeO.none _
      | refine LeO.ite ?_ ?_
      | refine LeO.bind ?_ (fun _ => ?_)
    · intro y0 y1 y2 y3 y4 y5
      unfold portcullisref20_tail.j1
      repeat' first
      | (with_reducible exact ih0 _ _ _ _)
      | (with_reducible exact ih1 _ _ _ _ _ _)
      | (with_reducible exact portcullisref19_Ends.mono _ _)
      | (with_reducible exact portcullisref19_Field.mono _ _)
      | (with_reducible exact LeO.refl _)
      | (with_reducible exact LeO.none _)
      | (with_reducible refine LeO.ite ?_ ?_)
      | (with_reducible refine LeO.bind ?_ (fun _ => ?_))
      | exact ih0 _ _ _ _
      | exact ih1 _ _ _ _ _ _
      | exact portcullisref19_Ends.mono _ _
      | exact portcullisref19_Field.mono _ _
      | exact LeO.none _
      | refine LeO.ite ?_ ?_
      | refine LeO.bind ?_ (fun _ => ?_)
theorem portcullisref20_tail.mono : ∀ a0 k, LeO (portcullisref20_tail.f k a0) (portcullisref20_tail.f (k + 1) a0) := by
  intro a0 k
  obtain ⟨ih0, ih1⟩ := portcullisref20_tail.mono_l k
  unfold portcullisref20_tail.f
  repeat' first
      | (with_reducible exact ih0 _ _ _ _)
      | (with_reducible exact ih1 _ _ _ _ _ _)
      | (with_reducible exact portcullisref19_Ends.mono _ _)
      | (with_reducible exact portcullisref19_Field.mono _ _)
      | (with_reducible exact LeO.refl _)
      | (with_reducible exact LeO.none _)
      | (with_reducible refine LeO.ite ?_ ?_)
      | (with_reducible refine LeO.bind ?_ (fun _ => ?_))
      | exact ih0 _ _ _ _
      | exact ih1 _ _ _ _ _ _
      | exact portcullisref19_Ends.mono _ _
      | exact portcullisref19_Field.mono _ _
      | exact LeO.none _
      | refine LeO.ite ?_ ?_
      | refine LeO.bind ?_ (fun _ => ?_)
set_option maxHeartbeats 8000000 in
set_option maxRecDepth 100000 in
theorem portcullisref20_tail.calls (k : Nat) (a0 : ByteArray) (r1 : Int) (r2 : Bool) (r3 : Int) (w : World) (h : portcullisref20_tail.f k a0 = some (r1, r2, r3)) :
    Calls Tryd.prog 21 #[.string a0] w fun e w' => e = .returned (.tuple #[.int .i64 r1, .bool r2, .int .i64 r3]) ∧ Below w.heap.size w w' := by
  have hu59 := Tryd.underlying59
  have HB := Aside0.mk (Below.refl w.heap.size w)
  have H : (portcullisref20_tail.l0 k a0 0 0 0) = some (r1, r2, r3) := h
  clear h
  have H' := Aside0.mk H
  clear H
  go_enter Tryd.func21, Tryd.ntmps21
  go_wp2
  go_loopg [5, 6, 7] k (fun kq v5 v6 v7 w' => ∃ (x5_1 : Int) (x6_1 : Int) (x7_1 : Int), v5 = .int .i64 x5_1 ∧ v6 = .int .i64 x6_1 ∧ v7 = .int .i64 x7_1 ∧ Aside0 (portcullisref20_tail.l0 kq a0 x5_1 x6_1 x7_1 = some (r1, r2, r3)) ∧ Aside0 (kq ≤ k) ∧ Aside0 (Below w.heap.size w w'))
  case atStart => exact ⟨(0), (0), (0), (by first | rfl | (simp; done) | (simp [*]; done)), (by first | rfl | (simp; done) | (simp [*]; done)), (by first | rfl | (simp; done) | (simp [*]; done)), H', ⟨Nat.le_refl _⟩, ⟨by repeat (first | (with_reducible first | exact HB.out | apply below_alloc | apply pw_below_drewN | apply below_drew1) | exact HB.out)⟩⟩
  case round =>
    clear H'
    obtain ⟨x5_1, x6_1, x7_1, rfl, rfl, rfl, HA, HK1, HB⟩ := hrel
    cases gk with
    | zero => exact absurd HA.out (by simp [portcullisref20_tail.l0])
    | succ k1 =>
      have H := HA.out
      clear HA
      simp only [portcullisref20_tail.l0] at H
      by_cases c2 : x7_1 < (a0.size : Int)
      · rw [if_pos c2] at H
        have c2b0 : decide (x7_1 < (a0.size : Int)) = true := decide_eq_true c2
        clear c2
        by_cases c3 : 0 ≤ x7_1
        · rw [if_pos c3] at H
          have c3b0 : decide (0 ≤ x7_1) = true := decide_eq_true c3
          clear c3
          by_cases c5 : (bt a0 x7_1) = 10
          · rw [if_pos c5] at H
            have c5b0 : ((bt a0 x7_1) == 10) = true := beq_iff_eq.mpr c5
            have c5b1 : ((bt a0 x7_1) != 10) = false := bne_eq_false_iff_eq.mpr c5
            clear c5
            by_cases c6 : 0 ≤ x5_1
            · rw [if_pos c6] at H
              have c6b0 := eq_true c6
              have c6b1 : decide (0 ≤ x5_1) = true := decide_eq_true c6
              clear c6
              by_cases c7 : x5_1 ≤ (wrap64 (x7_1 + 1))
              · rw [if_pos c7] at H
                have c7b0 := eq_true c7
                have c7b1 : decide (x5_1 ≤ (wrap64 (x7_1 + 1))) = true := decide_eq_true c7
                by_cases c8 : (wrap64 (x7_1 + 1)) ≤ (a0.size : Int)
                · rw [if_pos c8] at H
                  have c8b0 := eq_true c8
                  have c8b1 : decide ((wrap64 (x7_1 + 1)) ≤ (a0.size : Int)) = true := decide_eq_true c8
                  replace H := Option.bind_eq_some_iff.mp H
                  obtain ⟨t120, A90, H⟩ := H
                  replace H : (if t120 = true then (if 0 ≤ (wrap64 ((wrap64 ((wrap64 (x7_1 + 1)) - x5_1)) - 2)) then (if (wrap64 ((wrap64 ((wrap64 (x7_1 + 1)) - x5_1)) - 2)) ≤ ((a0.extract (x5_1 : Int).toNat ((wrap64 (x7_1 + 1)) : Int).toNat).size : Int) then (if ((a0.extract (x5_1 : Int).toNat ((wrap64 (x7_1 + 1)) : Int).toNat).extract 0 ((wrap64 ((wrap64 ((wrap64 (x7_1 + 1)) - x5_1)) - 2)) : Int).toNat).toList = ([] : List UInt8) then (some (wrap64 (x7_1 + 1), true, 0)) else (if (((a0.extract (x5_1 : Int).toNat ((wrap64 (x7_1 + 1)) : Int).toNat).extract 0 ((wrap64 ((wrap64 ((wrap64 (x7_1 + 1)) - x5_1)) - 2)) : Int).toNat).size : Int) > 4096 then (portcullisref20_tail.j1 k1 a0 (wrap64 (x7_1 + 1)) x6_1 x7_1 ((a0.extract (x5_1 : Int).toNat ((wrap64 (x7_1 + 1)) : Int).toNat).extract 0 ((wrap64 ((wrap64 ((wrap64 (x7_1 + 1)) - x5_1)) - 2)) : Int).toNat) true) else (portcullisref20_tail.j1 k1 a0 (wrap64 (x7_1 + 1)) x6_1 x7_1 ((a0.extract (x5_1 : Int).toNat ((wrap64 (x7_1 + 1)) : Int).toNat).extract 0 ((wrap64 ((wrap64 ((wrap64 (x7_1 + 1)) - x5_1)) - 2)) : Int).toNat) (decide (x6_1 ≥ 64))))) else (none)) else (none)) else (some (wrap64 (x7_1 + 1), false, 200))) = some (r1, r2, r3) := H
                  have A9 := Aside0.mk A90
                  clear A90
                  by_cases c10 : t120 = true
                  · subst c10
                    have H1 : (if 0 ≤ (wrap64 ((wrap64 ((wrap64 (x7_1 + 1)) - x5_1)) - 2)) then (if (wrap64 ((wrap64 ((wrap64 (x7_1 + 1)) - x5_1)) - 2)) ≤ ((a0.extract (x5_1 : Int).toNat ((wrap64 (x7_1 + 1)) : Int).toNat).size : Int) then (if ((a0.extract (x5_1 : Int).toNat ((wrap64 (x7_1 + 1)) : Int).toNat).extract 0 ((wrap64 ((wrap64 ((wrap64 (x7_1 + 1)) - x5_1)) - 2)) : Int).toNat).toList = ([] : List UInt8) then (some (wrap64 (x7_1 + 1), true, 0)) else (if (((a0.extract (x5_1 : Int).toNat ((wrap64 (x7_1 + 1)) : Int).toNat).extract 0 ((wrap64 ((wrap64 ((wrap64 (x7_1 + 1)) - x5_1)) - 2)) : Int).toNat).size : Int) > 4096 then (portcullisref20_tail.j1 k1 a0 (wrap64 (x7_1 + 1)) x6_1 x7_1 ((a0.extract (x5_1 : Int).toNat ((wrap64 (x7_1 + 1)) : Int).toNat).extract 0 ((wrap64 ((wrap64 ((wrap64 (x7_1 + 1)) - x5_1)) - 2)) : Int).toNat) true) else (portcullisref20_tail.j1 k1 a0 (wrap64 (x7_1 + 1)) x6_1 x7_1 ((a0.extract (x5_1 : Int).toNat ((wrap64 (x7_1 + 1)) : Int).toNat).extract 0 ((wrap64 ((wrap64 ((wrap64 (x7_1 + 1)) - x5_1)) - 2)) : Int).toNat) (decide (x6_1 ≥ 64))))) else (none)) else (none)) = some (r1, r2, r3) := by rw [if_pos rfl] at H; exact H
                    clear H
                    have H := H1
                    clear H1
                    obtain ⟨ji11, hji11⟩ : ∃ j_ : Int, (wrap64 ((wrap64 ((wrap64 (x7_1 + 1)) - x5_1)) - 2)) = j_ := ⟨_, rfl⟩
                    replace H : (if 0 ≤ (ji11) then (if (ji11) ≤ ((a0.extract (x5_1 : Int).toNat ((wrap64 (x7_1 + 1)) : Int).toNat).size : Int) then (if ((a0.extract (x5_1 : Int).toNat ((wrap64 (x7_1 + 1)) : Int).toNat).extract 0 ((ji11) : Int).toNat).toList = ([] : List UInt8) then (some (wrap64 (x7_1 + 1), true, 0)) else (if (((a0.extract (x5_1 : Int).toNat ((wrap64 (x7_1 + 1)) : Int).toNat).extract 0 ((ji11) : Int).toNat).size : Int) > 4096 then (portcullisref20_tail.j1 k1 a0 (wrap64 (x7_1 + 1)) x6_1 x7_1 ((a0.extract (x5_1 : Int).toNat ((wrap64 (x7_1 + 1)) : Int).toNat).extract 0 ((ji11) : Int).toNat) true) else (portcullisref20_tail.j1 k1 a0 (wrap64 (x7_1 + 1)) x6_1 x7_1 ((a0.extract (x5_1 : Int).toNat ((wrap64 (x7_1 + 1)) : Int).toNat).extract 0 ((ji11) : Int).toNat) (decide (x6_1 ≥ 64))))) else (none)) else (none)) = some (r1, r2, r3) := by first | (rw [hji11] at H; exact H) | (simp only [hji11] at H ⊢; exact H)
                    (try rw [hji11] at A9)
                    have hji11w : (IntKind.i64.wrap ((wrap64 ((wrap64 (x7_1 + 1)) - x5_1)) - 2)) = ji11 := (i64_w _).trans hji11
                    by_cases c12 : 0 ≤ (ji11)
                    · rw [if_pos c12] at H
                      have c12b0 := eq_true c12
                      have c12b1 : decide (0 ≤ (ji11)) = true := decide_eq_true c12
                      clear c12
                      by_cases c13 : (ji11) ≤ ((a0.extract (x5_1 : Int).toNat ((wrap64 (x7_1 + 1)) : Int).toNat).size : Int)
                      · rw [if_pos c13] at H
                        have c13b0 := eq_true c13
                        have c13b1 : decide ((ji11) ≤ ((a0.extract (x5_1 : Int).toNat ((wrap64 (x7_1 + 1)) : Int).toNat).size : Int)) = true := decide_eq_true c13
                        have c13s : ji11 ≤ (((wrap64 (x7_1 + 1)).toNat - x5_1.toNat : Nat) : Int) := by have hq := c13; rw [ByteArray.size_extract] at hq; omega
                        have c13s1 : decide (ji11 ≤ (((wrap64 (x7_1 + 1)).toNat - x5_1.toNat : Nat) : Int)) = true := decide_eq_true c13s
                        replace c13s := eq_true c13s
                        by_cases c14 : ((a0.extract (x5_1 : Int).toNat ((wrap64 (x7_1 + 1)) : Int).toNat).extract 0 ((ji11) : Int).toNat).toList = ([] : List UInt8)
                        · rw [if_pos c14] at H
                          have c14b0 : (((a0.extract (x5_1 : Int).toNat ((wrap64 (x7_1 + 1)) : Int).toNat).extract 0 ((ji11) : Int).toNat).toList == ([] : List UInt8)) = true := beq_iff_eq.mpr c14
                          have c14b1 : (((a0.extract (x5_1 : Int).toNat ((wrap64 (x7_1 + 1)) : Int).toNat).extract 0 ((ji11) : Int).toNat).toList != ([] : List UInt8)) = false := bne_eq_false_iff_eq.mpr c14
                          clear c14
                          simp only [Option.some.injEq, Prod.mk.injEq] at H
                          obtain ⟨rfl, rfl, rfl⟩ := H
                          have p4 : 0 ≤ (x7_1 : Int) := of_decide_eq_true (by first | (with_reducible assumption) | assumption)
                          have q4 : x7_1 < (a0.size : Int) := of_decide_eq_true (by first | (with_reducible assumption) | assumption)
                          have hx4 := bt_at a0 x7_1
                          replace p4 := eq_true p4
                          replace q4 := eq_true q4
                          go_wp2_with (first | ((with_reducible refine gate_callee (f := 29) rfl ?_); refine goesL_ (some 38) rfl rfl Tryd.func29 (by kernel_rfl) rfl #[.string (a0.extract (x5_1 : Int).toNat ((wrap64 (x7_1 + 1)) : Int).toNat)] rfl (by (try simp only [List.map_toArray, List.map_cons, List.map_nil]); first | done | rfl | (simp only [List.length_drop, List.length_take]; rfl)) ?_; (with_reducible refine (portcullisref19_Ends.calls k1 (a0.extract (x5_1 : Int).toNat ((wrap64 (x7_1 + 1)) : Int).toNat) true _ A9.out).mono ?_); rintro e w' ⟨rfl, ⟨nd, rfl⟩⟩; refine ⟨_, rfl, ?_⟩))
                          go_ret3
                          exact ⟨by first | rfl | (simp [errW_none, errW_some] <;> rfl) | (simp only [← hji11]; first | rfl | (simp [errW_none, errW_some] <;> rfl)) | (simp [*, errW_none, errW_some] <;> rfl), by repeat (first | (with_reducible first | exact HB.out | apply below_alloc | apply pw_below_drewN | apply below_drew1) | exact HB.out)⟩
                        · rw [if_neg c14] at H
                          have c14b0 : (((a0.extract (x5_1 : Int).toNat ((wrap64 (x7_1 + 1)) : Int).toNat).extract 0 ((ji11) : Int).toNat).toList == ([] : List UInt8)) = false := beq_eq_false_iff_ne.mpr c14
                          have c14b1 : (((a0.extract (x5_1 : Int).toNat ((wrap64 (x7_1 + 1)) : Int).toNat).extract 0 ((ji11) : Int).toNat).toList != ([] : List UInt8)) = true := bne_iff_ne.mpr c14
                          have HC15 := Aside0.mk H
                          clear H
                          have p4 : 0 ≤ (x7_1 : Int) := of_decide_eq_true (by first | (with_reducible assumption) | assumption)
                          have q4 : x7_1 < (a0.size : Int) := of_decide_eq_true (by first | (with_reducible assumption) | assumption)
                          have hx4 := bt_at a0 x7_1
                          replace p4 := eq_true p4
                          replace q4 := eq_true q4
                          go_upto_region 17 with (first | ((with_reducible refine gate_callee (f := 29) rfl ?_); refine goesL_ (some 38) rfl rfl Tryd.func29 (by kernel_rfl) rfl #[.string (a0.extract (x5_1 : Int).toNat ((wrap64 (x7_1 + 1)) : Int).toNat)] rfl (by (try simp only [List.map_toArray, List.map_cons, List.map_nil]); first | done | rfl | (simp only [List.length_drop, List.length_take]; rfl)) ?_; (with_reducible refine (portcullisref19_Ends.calls k1 (a0.extract (x5_1 : Int).toNat ((wrap64 (x7_1 + 1)) : Int).toNat) true _ A9.out).mono ?_); rintro e w' ⟨rfl, ⟨nd, rfl⟩⟩; refine ⟨_, rfl, ?_⟩))
                          (try simp only [Act.put, List.setIfInBounds_toArray, List.set_cons_zero, List.set_cons_succ])
                          go_cut [56] (fun v56 wc => ∃ (kq : Nat) (x56_14 : Bool), v56 = .bool x56_14 ∧ Aside0 (portcullisref20_tail.j1 kq a0 (wrap64 (x7_1 + 1)) x6_1 x7_1 ((a0.extract (x5_1 : Int).toNat ((wrap64 (x7_1 + 1)) : Int).toNat).extract 0 ((ji11) : Int).toNat) x56_14 = some (r1, r2, r3)) ∧ Aside0 (kq ≤ k1) ∧ Aside0 (Below w.heap.size w wc))
                          case first =>
                            have H := HC15.out
                            clear HC15
                            by_cases c16 : (((a0.extract (x5_1 : Int).toNat ((wrap64 (x7_1 + 1)) : Int).toNat).extract 0 ((ji11) : Int).toNat).size : Int) > 4096
                            · rw [if_pos c16] at H
                              have c16b0 : decide (4096 < (((a0.extract (x5_1 : Int).toNat ((wrap64 (x7_1 + 1)) : Int).toNat).extract 0 ((ji11) : Int).toNat).size : Int)) = true := decide_eq_true c16
                              have c16b1 : decide (4096 < ((a0.extract (x5_1 : Int).toNat ((wrap64 (x7_1 + 1)) : Int).toNat).extract 0 ((ji11) : Int).toNat).size) = true := decide_eq_true (by omega)
                              have c16s : (4096 < max ji11 0) := by have hq := c16; have hz := of_decide_eq_true c12b1; have hy := of_decide_eq_true c13b1; rw [ByteArray.size_extract] at hq; omega
                              have c16s1 : decide (4096 < max ji11 0) = true := decide_eq_true c16s
                              replace c16s := eq_true c16s
                              clear c16
                              (first | rw [c16b0] | (simp only [i64_w, i32_w]; rw [c16b0]) | skip)
                              have H' := Aside0.mk H
                              clear H
                              go_wp2
                              go_meet
                              case rel => exact ⟨_, (true), (by first | rfl | (simp; done) | (simp [*]; done)), H', ⟨by have := HK1.out; first | omega | exact Nat.le_refl _⟩, ⟨by repeat (first | (with_reducible first | exact HB.out | apply below_alloc | apply pw_below_drewN | apply below_drew1) | exact HB.out)⟩⟩
                            · rw [if_neg c16] at H
                              have c16b0 : decide (4096 < (((a0.extract (x5_1 : Int).toNat ((wrap64 (x7_1 + 1)) : Int).toNat).extract 0 ((ji11) : Int).toNat).size : Int)) = false := decide_eq_false c16
                              have c16b1 : decide (4096 < ((a0.extract (x5_1 : Int).toNat ((wrap64 (x7_1 + 1)) : Int).toNat).extract 0 ((ji11) : Int).toNat).size) = false := decide_eq_false (by omega)
                              have c16s : ¬ (4096 < max ji11 0) := by have hq := c16; have hz := of_decide_eq_true c12b1; have hy := of_decide_eq_true c13b1; rw [ByteArray.size_extract] at hq; omega
                              have c16s1 : decide (4096 < max ji11 0) = false := decide_eq_false c16s
                              replace c16s := eq_false c16s
                              clear c16
                              (first | rw [c16b0] | (simp only [i64_w, i32_w]; rw [c16b0]) | skip)
                              have H' := Aside0.mk H
                              clear H
                              go_wp2
                              go_meet
                              case rel => exact ⟨_, (decide (x6_1 ≥ 64)), (by first | rfl | (simp; done) | (simp [*]; done)), H', ⟨by have := HK1.out; first | omega | exact Nat.le_refl _⟩, ⟨by repeat (first | (with_reducible first | exact HB.out | apply below_alloc | apply pw_below_drewN | apply below_drew1) | exact HB.out)⟩⟩
                          case rest =>
                            clear HC15
                            try clear c1
                            try clear c2
                            try clear c2b0
                            try clear p2
                            try clear c3
                            try clear c3b0
                            try clear p4
                            try clear q4
                            try clear hx4
                            try clear c5
                            try clear c5b0
                            try clear c5b1
                            try clear c6
                            try clear c6b0
                            try clear c6b1
                            try clear p6
                            try clear c7
                            try clear c7b0
                            try clear c7b1
                            try clear c8
                            try clear c8b0
                            try clear c8b1
                            try clear c10
                            try clear c12
                            try clear c12b0
                            try clear c12b1
                            try clear c13
                            try clear c13b0
                            try clear c13b1
                            try clear c14
                            try clear c14b0
                            try clear c14b1
                            try clear c16
                            try clear c16b0
                            try clear c16b1
                            try clear p4
                            try clear q4
                            obtain ⟨kq, x56_14, rfl, HA, HJ14, HB⟩ := hcut
                            cases kq with
                            | zero => exact absurd HA.out (by simp [portcullisref20_tail.j1])
                            | succ kj14 =>
                              have H := HA.out
                              clear HA
                              simp only [portcullisref20_tail.j1] at H
                              by_cases c17 : x56_14 = true
                              · subst c17
                                have H1 : (some (wrap64 (x7_1 + 1), false, 195)) = some (r1, r2, r3) := by rw [if_pos rfl] at H; exact H
                                clear H
                                have H := H1
                                clear H1
                                simp only [Option.some.injEq, Prod.mk.injEq] at H
                                obtain ⟨rfl, rfl, rfl⟩ := H
                                go_wp2
                                go_ret3
                                exact ⟨by first | rfl | (simp [errW_none, errW_some] <;> rfl) | (simp only [← hji11]; first | rfl | (simp [errW_none, errW_some] <;> rfl)) | (simp [*, errW_none, errW_some] <;> rfl), by repeat (first | (with_reducible first | exact HB.out | apply below_alloc | apply pw_below_drewN | apply below_drew1) | exact HB.out)⟩
                              · replace c17 := Bool.eq_false_iff.mpr c17
                                subst c17
                                have H1 : ((portcullisref19_Field.f kj14 ((a0.extract (x5_1 : Int).toNat ((wrap64 (x7_1 + 1)) : Int).toNat).extract 0 ((ji11) : Int).toNat)).bind fun bt121 => (if bt121.2.2 = true then (portcullisref20_tail.l0 kj14 a0 (wrap64 (x7_1 + 1)) (wrap64 (x6_1 + 1)) (wrap64 (x7_1 + 1))) else (some (wrap64 (x7_1 + 1), false, 200)))) = some (r1, r2, r3) := by rw [if_neg (show ¬ (false = true) by decide)] at H; exact H
                                clear H
                                have H := H1
                                clear H1
                                replace H := Option.bind_eq_some_iff.mp H
                                obtain ⟨⟨t121, t122, t123⟩, A180, H⟩ := H
                                replace H : (if t123 = true then (portcullisref20_tail.l0 kj14 a0 (wrap64 (x7_1 + 1)) (wrap64 (x6_1 + 1)) (wrap64 (x7_1 + 1))) else (some (wrap64 (x7_1 + 1), false, 200))) = some (r1, r2, r3) := H
                                have A18 := Aside0.mk A180
                                clear A180
                                by_cases c19 : t123 = true
                                · subst c19
                                  have H1 : (portcullisref20_tail.l0 kj14 a0 (wrap64 (x7_1 + 1)) (wrap64 (x6_1 + 1)) (wrap64 (x7_1 + 1))) = some (r1, r2, r3) := by rw [if_pos rfl] at H; exact H
                                  clear H
                                  have H := H1
                                  clear H1
                                  have H' := Aside0.mk H
                                  clear H
                                  go_wp2_with (first | ((with_reducible refine gate_callee (f := 30) rfl ?_); refine goesL_ (some 61) rfl rfl Tryd.func30 (by kernel_rfl) rfl #[.string ((a0.extract (x5_1 : Int).toNat ((wrap64 (x7_1 + 1)) : Int).toNat).extract 0 ((ji11) : Int).toNat)] rfl (by (try simp only [List.map_toArray, List.map_cons, List.map_nil]); first | done | (simp only [hji11]; rfl) | rfl | (simp only [List.length_drop, List.length_take]; rfl)) ?_; (with_reducible refine (portcullisref19_Field.calls kj14 ((a0.extract (x5_1 : Int).toNat ((wrap64 (x7_1 + 1)) : Int).toNat).extract 0 ((ji11) : Int).toNat) t121 t122 true _ A18.out).mono ?_); rintro e w20 ⟨rfl, hb⟩; refine ⟨_, rfl, ?_⟩; have n0_ := Aside0.mk (below_step (by repeat (first | (with_reducible first | exact HB.out | apply below_alloc | apply pw_below_drewN | apply below_drew1) | exact HB.out)) hb); clear HB; have HB := n0_; clear n0_; (try clear hb); (try clear hb2); (try clear hk); (try clear hi)) | ((with_reducible refine gate_dst (N := 10) rfl ?_); refine box_event ?hg (N := 10) ?hd (cs := #[.string (⟨#[]⟩ : ByteArray), .string (⟨#[]⟩ : ByteArray)]) (t := 59) ?hr ?_; (case hd => rfl); (case hg => rfl); (case hr => first | (go_simp; done) | (go_simp; rfl)); intro gb124 hg w21 hbox hb; have n0_ := Aside0.mk (below_step (by repeat (first | (with_reducible first | exact HB.out | apply below_alloc | apply pw_below_drewN | apply below_drew1) | exact HB.out)) hb); have n1_ := Aside0.mk (hbox); have n2_ := Aside0.mk ((by rw [hg]; exact (below_size (by repeat (first | (with_reducible first | exact HB.out | apply below_alloc | apply pw_below_drewN | apply below_drew1) | exact HB.out))) : w.heap.size ≤ gb124)); have n3_ := Aside0.mk ((by rw [hg]; exact (below_size (by repeat (first | (with_reducible first | exact HB.out | apply below_alloc | apply pw_below_drewN | apply below_drew1) | exact HB.out))) : w.heap.size ≤ gb124)); clear HB; have HB := n0_; have BK124 := n1_; have GW124 := n2_; have GE124 := n3_; clear n0_ n1_ n2_ n3_; clear hb hbox hg; have hcz22_0 : w21.cell? ⟨gb124, 0, none⟩ = some (.string (⟨#[]⟩ : ByteArray)) := (blk_cell BK124.out 0).trans rfl; have hcz22_1 : w21.cell? ⟨gb124, 1, none⟩ = some (.string (⟨#[]⟩ : ByteArray)) := (blk_cell BK124.out 1).trans rfl; have hfz22_0 := blk_frozen BK124.out 0; have hfz22_1 := blk_frozen BK124.out 1))
                                  go_roundg kj14
                                  case measure => have := HK1.out; have := HJ14.out; omega
                                  case rel => exact ⟨((wrap64 (x7_1 + 1))), (wrap64 (x6_1 + 1)), (wrap64 (x7_1 + 1)), (by first | rfl | (simp; done) | (simp [*]; done)), (by first | rfl | (simp; done) | (simp [*]; done)), (by first | rfl | (simp; done) | (simp [*]; done)), H', ⟨by have := HK1.out; have := HJ14.out; omega⟩, ⟨by repeat (first | (with_reducible first | exact HB.out | apply below_alloc | apply pw_below_drewN | apply below_drew1 | refine below_set ?_ GE124.out) | exact HB.out)⟩⟩
                                · replace c19 := Bool.eq_false_iff.mpr c19
                                  subst c19
                                  have H1 : (some (wrap64 (x7_1 + 1), false, 200)) = some (r1, r2, r3) := by rw [if_neg (show ¬ (false = true) by decide)] at H; exact H
                                  clear H
                                  have H := H1
                                  clear H1
                                  simp only [Option.some.injEq, Prod.mk.injEq] at H
                                  obtain ⟨rfl, rfl, rfl⟩ := H
                                  go_wp2_with (first | ((with_reducible refine gate_callee (f := 30) rfl ?_); refine goesL_ (some 61) rfl rfl Tryd.func30 (by kernel_rfl) rfl #[.string ((a0.extract (x5_1 : Int).toNat ((wrap64 (x7_1 + 1)) : Int).toNat).extract 0 ((ji11) : Int).toNat)] rfl (by (try simp only [List.map_toArray, List.map_cons, List.map_nil]); first | done | (simp only [hji11]; rfl) | rfl | (simp only [List.length_drop, List.length_take]; rfl)) ?_; (with_reducible refine (portcullisref19_Field.calls kj14 ((a0.extract (x5_1 : Int).toNat ((wrap64 (x7_1 + 1)) : Int).toNat).extract 0 ((ji11) : Int).toNat) t121 t122 false _ A18.out).mono ?_); rintro e w23 ⟨rfl, hb⟩; refine ⟨_, rfl, ?_⟩; have n0_ := Aside0.mk (below_step (by repeat (first | (with_reducible first | exact HB.out | apply below_alloc | apply pw_below_drewN | apply below_drew1) | exact HB.out)) hb); clear HB; have HB := n0_; clear n0_; (try clear hb); (try clear hb2); (try clear hk); (try clear hi)) | ((with_reducible refine gate_dst (N := 10) rfl ?_); refine box_event ?hg (N := 10) ?hd (cs := #[.string (⟨#[]⟩ : ByteArray), .string (⟨#[]⟩ : ByteArray)]) (t := 59) ?hr ?_; (case hd => rfl); (case hg => rfl); (case hr => first | (go_simp; done) | (go_simp; rfl)); intro gb124 hg w24 hbox hb; have n0_ := Aside0.mk (below_step (by repeat (first | (with_reducible first | exact HB.out | apply below_alloc | apply pw_below_drewN | apply below_drew1) | exact HB.out)) hb); have n1_ := Aside0.mk (hbox); have n2_ := Aside0.mk ((by rw [hg]; exact (below_size (by repeat (first | (with_reducible first | exact HB.out | apply below_alloc | apply pw_below_drewN | apply below_drew1) | exact HB.out))) : w.heap.size ≤ gb124)); have n3_ := Aside0.mk ((by rw [hg]; exact (below_size (by repeat (first | (with_reducible first | exact HB.out | apply below_alloc | apply pw_below_drewN | apply below_drew1) | exact HB.out))) : w.heap.size ≤ gb124)); clear HB; have HB := n0_; have BK124 := n1_; have GW124 := n2_; have GE124 := n3_; clear n0_ n1_ n2_ n3_; clear hb hbox hg; have hcz25_0 : w24.cell? ⟨gb124, 0, none⟩ = some (.string (⟨#[]⟩ : ByteArray)) := (blk_cell BK124.out 0).trans rfl; have hcz25_1 : w24.cell? ⟨gb124, 1, none⟩ = some (.string (⟨#[]⟩ : ByteArray)) := (blk_cell BK124.out 1).trans rfl; have hfz25_0 := blk_frozen BK124.out 0; have hfz25_1 := blk_frozen BK124.out 1))
                                  go_ret3
                                  exact ⟨by first | rfl | (simp [errW_none, errW_some] <;> rfl) | (simp only [← hji11]; first | rfl | (simp [errW_none, errW_some] <;> rfl)) | (simp [*, errW_none, errW_some] <;> rfl), by repeat (first | (with_reducible first | exact HB.out | apply below_alloc | apply pw_below_drewN | apply below_drew1 | refine below_set ?_ GE124.out) | exact HB.out)⟩
                      · rw [if_neg c13] at H
                        exact absurd H (by simp)
                    · rw [if_neg c12] at H
                      exact absurd H (by simp)
                  · replace c10 := Bool.eq_false_iff.mpr c10
                    subst c10
                    have H1 : (some (wrap64 (x7_1 + 1), false, 200)) = some (r1, r2, r3) := by rw [if_neg (show ¬ (false = true) by decide)] at H; exact H
                    clear H
                    have H := H1
                    clear H1
                    simp only [Option.some.injEq, Prod.mk.injEq] at H
                    obtain ⟨rfl, rfl, rfl⟩ := H
                    have p4 : 0 ≤ (x7_1 : Int) := of_decide_eq_true (by first | (with_reducible assumption) | assumption)
                    have q4 : x7_1 < (a0.size : Int) := of_decide_eq_true (by first | (with_reducible assumption) | assumption)
                    have hx4 := bt_at a0 x7_1
                    replace p4 := eq_true p4
                    replace q4 := eq_true q4
                    go_wp2_with (first | ((with_reducible refine gate_callee (f := 29) rfl ?_); refine goesL_ (some 38) rfl rfl Tryd.func29 (by kernel_rfl) rfl #[.string (a0.extract (x5_1 : Int).toNat ((wrap64 (x7_1 + 1)) : Int).toNat)] rfl (by (try simp only [List.map_toArray, List.map_cons, List.map_nil]); first | done | rfl | (simp only [List.length_drop, List.length_take]; rfl)) ?_; (with_reducible refine (portcullisref19_Ends.calls k1 (a0.extract (x5_1 : Int).toNat ((wrap64 (x7_1 + 1)) : Int).toNat) false _ A9.out).mono ?_); rintro e w' ⟨rfl, ⟨nd, rfl⟩⟩; refine ⟨_, rfl, ?_⟩))
                    go_ret3
                    exact ⟨by first | rfl | (simp [errW_none, errW_some] <;> rfl) | (simp [*, errW_none, errW_some] <;> rfl), by repeat (first | (with_reducible first | exact HB.out | apply below_alloc | apply pw_below_drewN | apply below_drew1) | exact HB.out)⟩
                · rw [if_neg c8] at H
                  exact absurd H (by simp)
              · rw [if_neg c7] at H
                exact absurd H (by simp)
            · rw [if_neg c6] at H
              exact absurd H (by simp)
          · rw [if_neg c5] at H
            have c5b0 : ((bt a0 x7_1) == 10) = false := beq_eq_false_iff_ne.mpr c5
            have c5b1 : ((bt a0 x7_1) != 10) = true := bne_iff_ne.mpr c5
            by_cases c26 : (wrap64 ((wrap64 (x7_1 + 1)) - x5_1)) > 4097
            · rw [if_pos c26] at H
              have c26b0 : decide (4097 < (wrap64 ((wrap64 (x7_1 + 1)) - x5_1))) = true := decide_eq_true c26
              clear c26
              simp only [Option.some.injEq, Prod.mk.injEq] at H
              obtain ⟨rfl, rfl, rfl⟩ := H
              have p4 : 0 ≤ (x7_1 : Int) := of_decide_eq_true (by first | (with_reducible assumption) | assumption)
              have q4 : x7_1 < (a0.size : Int) := of_decide_eq_true (by first | (with_reducible assumption) | assumption)
              have hx4 := bt_at a0 x7_1
              replace p4 := eq_true p4
              replace q4 := eq_true q4
              go_wp2
              go_ret3
              exact ⟨by first | rfl | (simp [errW_none, errW_some] <;> rfl) | (simp [*, errW_none, errW_some] <;> rfl), by repeat (first | (with_reducible first | exact HB.out | apply below_alloc | apply pw_below_drewN | apply below_drew1) | exact HB.out)⟩
            · rw [if_neg c26] at H
              have c26b0 : decide (4097 < (wrap64 ((wrap64 (x7_1 + 1)) - x5_1))) = false := decide_eq_false c26
              clear c26
              have H' := Aside0.mk H
              clear H
              have p4 : 0 ≤ (x7_1 : Int) := of_decide_eq_true (by first | (with_reducible assumption) | assumption)
              have q4 : x7_1 < (a0.size : Int) := of_decide_eq_true (by first | (with_reducible assumption) | assumption)
              have hx4 := bt_at a0 x7_1
              replace p4 := eq_true p4
              replace q4 := eq_true q4
              go_wp2
              go_roundg k1
              case measure => have := HK1.out; omega
              case rel => exact ⟨(x5_1), (x6_1), (wrap64 (x7_1 + 1)), (by first | rfl | (simp; done) | (simp [*]; done)), (by first | rfl | (simp; done) | (simp [*]; done)), (by first | rfl | (simp; done) | (simp [*]; done)), H', ⟨by have := HK1.out; omega⟩, ⟨by repeat (first | (with_reducible first | exact HB.out | apply below_alloc | apply pw_below_drewN | apply below_drew1) | exact HB.out)⟩⟩
        · rw [if_neg c3] at H
          exact absurd H (by simp)
      · rw [if_neg c2] at H
        have c2b0 : decide (x7_1 < (a0.size : Int)) = false := decide_eq_false c2
        clear c2
        simp only [Option.some.injEq, Prod.mk.injEq] at H
        obtain ⟨rfl, rfl, rfl⟩ := H
        go_wp2
        go_ret3
        exact ⟨by first | rfl | (simp [errW_none, errW_some] <;> rfl) | (simp [*, errW_none, errW_some] <;> rfl), by repeat (first | (with_reducible first | exact HB.out | apply below_alloc | apply pw_below_drewN | apply below_drew1) | exact HB.out)⟩

end Go.Proofs.YtllcfifeaacmiaaDoor.Pr
