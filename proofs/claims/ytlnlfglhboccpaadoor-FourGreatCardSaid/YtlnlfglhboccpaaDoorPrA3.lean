-- printed by this session's own driver (wip/pr.py) over the kit's printer. Not trusted: Lean checks it.
import Derived.Test.YtlnlfglhboccpaaDoorPr0
import Derived.Test.YtlnlfglhboccpaaDoorPrA1
import Derived.Test.YtlnlfglhboccpaaDoorPrA2
namespace Go.Proofs.YtlnlfglhboccpaaDoor.Pr
open Go.RowKit Go.Proofs.YtlnlfglhboccpaaDoorW.PrintWords Go.Proofs.YtlnlfglhboccpaaDoorW.PrintLast Go.Proofs.YtlnlfglhboccpaaDoorW.PrintMore
attribute [local go_sem] max2_int min2_int max_two min_two max_three min_three max_four min_four   -- for this text's walks alone
set_option linter.unusedVariables false
set_option linter.unusedSimpArgs false

/-! ### portcullisref10_Ends: function 13 -/
def portcullisref10_Ends.l0 : Nat → ByteArray → Bool → Int → Option (Bool)
  | 0, _, _, _ => none
  | k + 1, x4, x5, x6 => if x6 < (x4.size : Int) then (if x5 = true then (if 0 ≤ x6 then (if (bt x4 x6) ≥ 48 then (portcullisref10_Ends.l0 k x4 (decide ((bt x4 x6) ≤ 57)) (wrap64 (x6 + 1))) else (portcullisref10_Ends.l0 k x4 false (wrap64 (x6 + 1)))) else (none)) else (portcullisref10_Ends.l0 k x4 false (wrap64 (x6 + 1)))) else (if x5 = true then (some true) else ((portcullisref10_Number.f k x4).bind fun bt161 => (if (x4.size : Int) ≥ 2 then (if 0 < (x4.size : Int) then (if (bt x4 0) = 48 then (if 1 < (x4.size : Int) then (if (bt x4 1) = 120 then (some (bt161.2 != 8)) else (if (bt x4 1) = 88 then (some (bt161.2 != 8)) else (some false))) else (none)) else (some false)) else (none)) else (some false))))
def portcullisref10_Ends.f (k : Nat) (a0 : ByteArray) : Option (Bool) := (portcullisref10_Parts.f k a0).bind fun t157 => (if 0 ≤ (wrap64 ((t157.length : Int) - 1)) then (if (wrap64 ((t157.length : Int) - 1)) < (t157.length : Int) then (portcullisref10_Ends.l0 k (rdOf ByteArray.empty t157 (wrap64 ((t157.length : Int) - 1))) ((rdOf ByteArray.empty t157 (wrap64 ((t157.length : Int) - 1))).toList != ([] : List UInt8)) 0) else (none)) else (none))
theorem portcullisref10_Ends.mono_l : ∀ k, (∀ y0 y1 y2, LeO (portcullisref10_Ends.l0 k y0 y1 y2) (portcullisref10_Ends.l0 (k + 1) y0 y1 y2))
  | 0 => fun _ _ _ r h => by simp [portcullisref10_Ends.l0] at h
  | k + 1 => by
    have ih0 := portcullisref10_Ends.mono_l k
    · intro y0 y1 y2
      unfold portcullisref10_Ends.l0
      repeat' first
      | (with_reducible exact ih0 _ _ _)
      | (with_reducible exact portcullisref10_Number.mono _ _)
      | (with_reducible exact portcullisref10_Parts.mono _ _)
      | (with_reducible exact LeO.refl _)
      | (with_reducible exact LeO.none _)
      | (with_reducible refine LeO.ite ?_ ?_)
      | (with_reducible refine LeO.bind ?_ (fun _ => ?_))
      | exact ih0 _ _ _
      | exact portcullisref10_Number.mono _ _
      | exact portcullisref10_Parts.mono _ _
      | exact LeO.none _
      | refine LeO.ite ?_ ?_
      | refine LeO.bind ?_ (fun _ => ?_)
theorem portcullisref10_Ends.mono : ∀ a0 k, LeO (portcullisref10_Ends.f k a0) (portcullisref10_Ends.f (k + 1) a0) := by
  intro a0 k
  have ih0 := portcullisref10_Ends.mono_l k
  unfold portcullisref10_Ends.f
  repeat' first
      | (with_reducible exact ih0 _ _ _)
      | (with_reducible exact portcullisref10_Number.mono _ _)
      | (with_reducible exact portcullisref10_Parts.mono _ _)
      | (with_reducible exact LeO.refl _)
      | (with_reducible exact LeO.none _)
      | (with_reducible refine LeO.ite ?_ ?_)
      | (with_reducible refine LeO.bind ?_ (fun _ => ?_))
      | exact ih0 _ _ _
      | exact portcullisref10_Number.mono _ _
      | exact portcullisref10_Parts.mono _ _
      | exact LeO.none _
      | refine LeO.ite ?_ ?_
      | refine LeO.bind ?_ (fun _ => ?_)
set_option maxHeartbeats 8000000 in
set_option maxRecDepth 100000 in
theorem portcullisref10_Ends.calls (k : Nat) (a0 : ByteArray) (r : Bool) (w : World) (h : portcullisref10_Ends.f k a0 = some r) :
    Calls Tryd.prog 13 #[.string a0] w fun e w' => e = .returned (.bool r) ∧ Below w.heap.size w w' := by
  have HB := Aside0.mk (Below.refl w.heap.size w)
  have H : ((portcullisref10_Parts.f k a0).bind fun t157 => (if 0 ≤ (wrap64 ((t157.length : Int) - 1)) then (if (wrap64 ((t157.length : Int) - 1)) < (t157.length : Int) then (portcullisref10_Ends.l0 k (rdOf ByteArray.empty t157 (wrap64 ((t157.length : Int) - 1))) ((rdOf ByteArray.empty t157 (wrap64 ((t157.length : Int) - 1))).toList != ([] : List UInt8)) 0) else (none)) else (none))) = some r := h
  clear h
  replace H := Option.bind_eq_some_iff.mp H
  obtain ⟨t157, A20, H⟩ := H
  replace H : (if 0 ≤ (wrap64 ((t157.length : Int) - 1)) then (if (wrap64 ((t157.length : Int) - 1)) < (t157.length : Int) then (portcullisref10_Ends.l0 k (rdOf ByteArray.empty t157 (wrap64 ((t157.length : Int) - 1))) ((rdOf ByteArray.empty t157 (wrap64 ((t157.length : Int) - 1))).toList != ([] : List UInt8)) 0) else (none)) else (none)) = some r := H
  have A2 := Aside0.mk A20
  clear A20
  obtain ⟨ji3, hji3⟩ : ∃ j_ : Int, (wrap64 ((t157.length : Int) - 1)) = j_ := ⟨_, rfl⟩
  replace H : (if 0 ≤ (ji3) then (if (ji3) < (t157.length : Int) then (portcullisref10_Ends.l0 k (rdOf ByteArray.empty t157 (ji3)) ((rdOf ByteArray.empty t157 (ji3)).toList != ([] : List UInt8)) 0) else (none)) else (none)) = some r := by first | (rw [hji3] at H; exact H) | (simp only [hji3] at H ⊢; exact H)
  (try rw [hji3] at A2)
  have hji3w : (IntKind.i64.wrap ((t157.length : Int) - 1)) = ji3 := (i64_w _).trans hji3
  by_cases c4 : 0 ≤ (ji3)
  · rw [if_pos c4] at H
    have c4b0 : decide (0 ≤ (ji3)) = true := decide_eq_true c4
    clear c4
    by_cases c5 : (ji3) < (t157.length : Int)
    · rw [if_pos c5] at H
      have c5b0 : decide ((ji3) < (t157.length : Int)) = true := decide_eq_true c5
      clear c5
      have H' := Aside0.mk H
      clear H
      go_enter Tryd.func13, Tryd.ntmps13
      go_wp2_with (first | ((with_reducible refine gate_callee (f := 21) rfl ?_); refine goesL_ (some 10) rfl rfl Tryd.func21 (by kernel_rfl) rfl #[.string a0] rfl (by (try simp only [List.map_toArray, List.map_cons, List.map_nil]); first | done | rfl | (simp only [List.length_drop, List.length_take]; rfl)) ?_; (with_reducible refine (portcullisref10_Parts.calls k a0 t157 _ A2.out).mono ?_); rintro e w6 ⟨v158, rfl, ho0, hb⟩; refine ⟨_, rfl, ?_⟩; have n0_ := Aside0.mk (Kd.R_lower ho0 (below_size (by repeat (first | (with_reducible first | exact HB.out | apply below_alloc | apply pw_below_drewN | apply below_drew1) | exact HB.out)))); have n1_ := Aside0.mk (below_step (by repeat (first | (with_reducible first | exact HB.out | apply below_alloc | apply pw_below_drewN | apply below_drew1) | exact HB.out)) hb); clear HB; have HO159 := n0_; have HB := n1_; clear n0_ n1_; (try clear hb); (try clear hb2); (try clear hk); (try clear hi); (try clear ho0); obtain ⟨Ao7, co7, eo7⟩ := Kd.R_slice HO159.out; subst eo7; have p160 : 0 ≤ ((ji3) : Int) := of_decide_eq_true (by first | (with_reducible assumption) | assumption); have q160 : (ji3) < (t157.length : Int) := of_decide_eq_true (by first | (with_reducible assumption) | assumption); obtain ⟨ad160, e160, hx160_0⟩ := Kd.at_string (Kd.R_reads' HO159.out).2.2 (ji3) p160 q160; cases e160; replace p160 := eq_true p160; replace q160 := eq_true q160))
      go_loopg [5, 6] k (fun kq v5 v6 w' => ∃ (x5_1 : Bool) (x6_1 : Int), v5 = .bool x5_1 ∧ v6 = .int .i64 x6_1 ∧ Aside0 (portcullisref10_Ends.l0 kq (rdOf ByteArray.empty t157 (ji3)) x5_1 x6_1 = some r) ∧ Aside0 (kq ≤ k) ∧ Aside0 (Below w.heap.size w w'))
      case atStart => exact ⟨(((rdOf ByteArray.empty t157 (ji3)).toList != ([] : List UInt8))), (0), (by first | rfl | (simp; done) | (simp only [← hji3] <;> (first | rfl | exact congrArg Value.bool (nE_ne _) | (simp; done))) | (simp [*]; done)), (by first | rfl | (simp; done) | (simp [uw_uw]; done) | (simp [*]; done)), H', ⟨Nat.le_refl _⟩, ⟨by repeat (first | (with_reducible first | exact HB.out | apply below_alloc | apply pw_below_drewN | apply below_drew1) | exact HB.out)⟩⟩
      case round =>
        clear H'
        try clear c1
        try clear p1
        try clear q1
        try clear hx1
        try clear c2
        try clear p2
        try clear c4
        try clear c4b0
        try clear c5
        try clear c5b0
        try clear p6
        try clear hx160_0
        try clear p160
        try clear q160
        obtain ⟨x5_1, x6_1, rfl, rfl, HA, HK1, HB⟩ := hrel
        cases gk with
        | zero => exact absurd HA.out (by simp [portcullisref10_Ends.l0])
        | succ k1 =>
          have H := HA.out
          clear HA
          simp only [portcullisref10_Ends.l0] at H
          by_cases c8 : x6_1 < ((rdOf ByteArray.empty t157 (ji3)).size : Int)
          · rw [if_pos c8] at H
            have c8b0 : decide (x6_1 < ((rdOf ByteArray.empty t157 (ji3)).size : Int)) = true := decide_eq_true c8
            clear c8
            by_cases c9 : x5_1 = true
            · subst c9
              have H1 : (if 0 ≤ x6_1 then (if (bt (rdOf ByteArray.empty t157 (ji3)) x6_1) ≥ 48 then (portcullisref10_Ends.l0 k1 (rdOf ByteArray.empty t157 (ji3)) (decide ((bt (rdOf ByteArray.empty t157 (ji3)) x6_1) ≤ 57)) (wrap64 (x6_1 + 1))) else (portcullisref10_Ends.l0 k1 (rdOf ByteArray.empty t157 (ji3)) false (wrap64 (x6_1 + 1)))) else (none)) = some r := by rw [if_pos rfl] at H; exact H
              clear H
              have H := H1
              clear H1
              by_cases c10 : 0 ≤ x6_1
              · rw [if_pos c10] at H
                have c10b0 : decide (0 ≤ x6_1) = true := decide_eq_true c10
                clear c10
                by_cases c12 : (bt (rdOf ByteArray.empty t157 (ji3)) x6_1) ≥ 48
                · rw [if_pos c12] at H
                  have c12b0 : decide (48 ≤ (bt (rdOf ByteArray.empty t157 (ji3)) x6_1)) = true := decide_eq_true c12
                  clear c12
                  have H' := Aside0.mk H
                  clear H
                  have p11 : 0 ≤ (x6_1 : Int) := of_decide_eq_true (by first | (with_reducible assumption) | assumption)
                  have q11 : x6_1 < ((rdOf ByteArray.empty t157 (ji3)).size : Int) := of_decide_eq_true (by first | (with_reducible assumption) | assumption)
                  have hx11 := bt_at (rdOf ByteArray.empty t157 (ji3)) x6_1
                  replace p11 := eq_true p11
                  replace q11 := eq_true q11
                  have p13 : 0 ≤ (x6_1 : Int) := of_decide_eq_true (by first | (with_reducible assumption) | assumption)
                  have q13 : x6_1 < ((rdOf ByteArray.empty t157 (ji3)).size : Int) := of_decide_eq_true (by first | (with_reducible assumption) | assumption)
                  have hx13 := bt_at (rdOf ByteArray.empty t157 (ji3)) x6_1
                  replace p13 := eq_true p13
                  replace q13 := eq_true q13
                  go_wp2
                  go_roundg k1
                  case measure => have := HK1.out; omega
                  case rel => exact ⟨(decide ((bt (rdOf ByteArray.empty t157 (ji3)) x6_1) ≤ 57)), (wrap64 (x6_1 + 1)), (by first | rfl | (simp; done) | (simp only [← hji3] <;> (first | rfl | exact congrArg Value.bool (nE_ne _) | (simp; done))) | (simp [*]; done)), (by first | rfl | (simp; done) | (simp [uw_uw]; done) | (simp [*]; done)), H', ⟨by have := HK1.out; omega⟩, ⟨by repeat (first | (with_reducible first | exact HB.out | apply below_alloc | apply pw_below_drewN | apply below_drew1) | exact HB.out)⟩⟩
                · rw [if_neg c12] at H
                  have c12b0 : decide (48 ≤ (bt (rdOf ByteArray.empty t157 (ji3)) x6_1)) = false := decide_eq_false c12
                  clear c12
                  have H' := Aside0.mk H
                  clear H
                  have p11 : 0 ≤ (x6_1 : Int) := of_decide_eq_true (by first | (with_reducible assumption) | assumption)
                  have q11 : x6_1 < ((rdOf ByteArray.empty t157 (ji3)).size : Int) := of_decide_eq_true (by first | (with_reducible assumption) | assumption)
                  have hx11 := bt_at (rdOf ByteArray.empty t157 (ji3)) x6_1
                  replace p11 := eq_true p11
                  replace q11 := eq_true q11
                  go_wp2
                  go_roundg k1
                  case measure => have := HK1.out; omega
                  case rel => exact ⟨(false), (wrap64 (x6_1 + 1)), (by first | rfl | (simp; done) | (simp [uw_uw]; done) | (simp [*]; done)), (by first | rfl | (simp; done) | (simp [uw_uw]; done) | (simp [*]; done)), H', ⟨by have := HK1.out; omega⟩, ⟨by repeat (first | (with_reducible first | exact HB.out | apply below_alloc | apply pw_below_drewN | apply below_drew1) | exact HB.out)⟩⟩
              · rw [if_neg c10] at H
                exact absurd H (by simp)
            · replace c9 := Bool.eq_false_iff.mpr c9
              subst c9
              have H1 : (portcullisref10_Ends.l0 k1 (rdOf ByteArray.empty t157 (ji3)) false (wrap64 (x6_1 + 1))) = some r := by rw [if_neg (show ¬ (false = true) by decide)] at H; exact H
              clear H
              have H := H1
              clear H1
              have H' := Aside0.mk H
              clear H
              go_wp2
              go_roundg k1
              case measure => have := HK1.out; omega
              case rel => exact ⟨(false), (wrap64 (x6_1 + 1)), (by first | rfl | (simp; done) | (simp [uw_uw]; done) | (simp [*]; done)), (by first | rfl | (simp; done) | (simp [uw_uw]; done) | (simp [*]; done)), H', ⟨by have := HK1.out; omega⟩, ⟨by repeat (first | (with_reducible first | exact HB.out | apply below_alloc | apply pw_below_drewN | apply below_drew1) | exact HB.out)⟩⟩
          · rw [if_neg c8] at H
            have c8b0 : decide (x6_1 < ((rdOf ByteArray.empty t157 (ji3)).size : Int)) = false := decide_eq_false c8
            clear c8
            by_cases c14 : x5_1 = true
            · subst c14
              have H1 : (some true) = some r := by rw [if_pos rfl] at H; exact H
              clear H
              have H := H1
              clear H1
              obtain rfl := Option.some.inj H
              go_wp2
              go_ret
              exact ⟨by first | rfl | (simp [errW_none, errW_some] <;> rfl) | (simp only [← hji3]; first | rfl | (simp [errW_none, errW_some] <;> rfl)) | (simp [*, errW_none, errW_some] <;> rfl), by repeat (first | (with_reducible first | exact HB.out | apply below_alloc | apply pw_below_drewN | apply below_drew1) | exact HB.out)⟩
            · replace c14 := Bool.eq_false_iff.mpr c14
              subst c14
              have H1 : ((portcullisref10_Number.f k1 (rdOf ByteArray.empty t157 (ji3))).bind fun bt161 => (if ((rdOf ByteArray.empty t157 (ji3)).size : Int) ≥ 2 then (if 0 < ((rdOf ByteArray.empty t157 (ji3)).size : Int) then (if (bt (rdOf ByteArray.empty t157 (ji3)) 0) = 48 then (if 1 < ((rdOf ByteArray.empty t157 (ji3)).size : Int) then (if (bt (rdOf ByteArray.empty t157 (ji3)) 1) = 120 then (some (bt161.2 != 8)) else (if (bt (rdOf ByteArray.empty t157 (ji3)) 1) = 88 then (some (bt161.2 != 8)) else (some false))) else (none)) else (some false)) else (none)) else (some false))) = some r := by rw [if_neg (show ¬ (false = true) by decide)] at H; exact H
              clear H
              have H := H1
              clear H1
              replace H := Option.bind_eq_some_iff.mp H
              obtain ⟨⟨t161, t162⟩, A150, H⟩ := H
              replace H : (if ((rdOf ByteArray.empty t157 (ji3)).size : Int) ≥ 2 then (if 0 < ((rdOf ByteArray.empty t157 (ji3)).size : Int) then (if (bt (rdOf ByteArray.empty t157 (ji3)) 0) = 48 then (if 1 < ((rdOf ByteArray.empty t157 (ji3)).size : Int) then (if (bt (rdOf ByteArray.empty t157 (ji3)) 1) = 120 then (some (t162 != 8)) else (if (bt (rdOf ByteArray.empty t157 (ji3)) 1) = 88 then (some (t162 != 8)) else (some false))) else (none)) else (some false)) else (none)) else (some false)) = some r := H
              have A15 := Aside0.mk A150
              clear A150
              by_cases c16 : ((rdOf ByteArray.empty t157 (ji3)).size : Int) ≥ 2
              · rw [if_pos c16] at H
                have c16b0 : decide (2 ≤ ((rdOf ByteArray.empty t157 (ji3)).size : Int)) = true := decide_eq_true c16
                have c16b1 : decide (2 ≤ (rdOf ByteArray.empty t157 (ji3)).size) = true := decide_eq_true (by omega)
                clear c16
                by_cases c17 : 0 < ((rdOf ByteArray.empty t157 (ji3)).size : Int)
                · rw [if_pos c17] at H
                  have c17b0 : decide (0 < ((rdOf ByteArray.empty t157 (ji3)).size : Int)) = true := decide_eq_true c17
                  have c17b1 : decide (0 < (rdOf ByteArray.empty t157 (ji3)).size) = true := decide_eq_true (by omega)
                  clear c17
                  by_cases c19 : (bt (rdOf ByteArray.empty t157 (ji3)) 0) = 48
                  · rw [if_pos c19] at H
                    have c19b0 : ((bt (rdOf ByteArray.empty t157 (ji3)) 0) == 48) = true := beq_iff_eq.mpr c19
                    have c19b1 : ((bt (rdOf ByteArray.empty t157 (ji3)) 0) != 48) = false := bne_eq_false_iff_eq.mpr c19
                    clear c19
                    by_cases c20 : 1 < ((rdOf ByteArray.empty t157 (ji3)).size : Int)
                    · rw [if_pos c20] at H
                      have c20b0 : decide (1 < ((rdOf ByteArray.empty t157 (ji3)).size : Int)) = true := decide_eq_true c20
                      have c20b1 : decide (1 < (rdOf ByteArray.empty t157 (ji3)).size) = true := decide_eq_true (by omega)
                      clear c20
                      by_cases c22 : (bt (rdOf ByteArray.empty t157 (ji3)) 1) = 120
                      · rw [if_pos c22] at H
                        have c22b0 : ((bt (rdOf ByteArray.empty t157 (ji3)) 1) == 120) = true := beq_iff_eq.mpr c22
                        have c22b1 : ((bt (rdOf ByteArray.empty t157 (ji3)) 1) != 120) = false := bne_eq_false_iff_eq.mpr c22
                        clear c22
                        obtain rfl := Option.some.inj H
                        go_wp2_with (first | ((with_reducible refine gate_callee (f := 9) rfl ?_); refine goesL_ (some 41) rfl rfl Tryd.func9 (by kernel_rfl) rfl #[.string (rdOf ByteArray.empty t157 (ji3))] rfl (by (try simp only [List.map_toArray, List.map_cons, List.map_nil]); first | done | (simp only [hji3]; rfl) | rfl | (simp only [List.length_drop, List.length_take]; rfl)) ?_; (with_reducible refine (portcullisref10_Number.calls k1 (rdOf ByteArray.empty t157 (ji3)) t161 t162 _ A15.out).mono ?_); rintro e w23 ⟨rfl, hb⟩; refine ⟨_, rfl, ?_⟩; have n0_ := Aside0.mk (below_step (by repeat (first | (with_reducible first | exact HB.out | apply below_alloc | apply pw_below_drewN | apply below_drew1) | exact HB.out)) hb); clear HB; have HB := n0_; clear n0_; (try clear hb); (try clear hb2); (try clear hk); (try clear hi); have p18 : 0 ≤ (0 : Int) := (by omega); have q18 : 0 < (rdOf ByteArray.empty t157 (ji3)).size := (by have : (0 : Int) < ((rdOf ByteArray.empty t157 (ji3)).size : Int) := of_decide_eq_true (by first | (with_reducible assumption) | assumption); omega); have hx18 : ∀ h : 0 < (rdOf ByteArray.empty t157 (ji3)).size, (((rdOf ByteArray.empty t157 (ji3))[0]'h).toNat : Int) = bt (rdOf ByteArray.empty t157 (ji3)) 0 := bt_at (rdOf ByteArray.empty t157 (ji3)) 0; clear p18; have qi18 : (0 < ((rdOf ByteArray.empty t157 (ji3)).size : Int)) = True := eq_true (of_decide_eq_true (by first | (with_reducible assumption) | assumption)); replace q18 := eq_true q18; have p21 : 0 ≤ (1 : Int) := (by omega); have q21 : 1 < (rdOf ByteArray.empty t157 (ji3)).size := (by have : (1 : Int) < ((rdOf ByteArray.empty t157 (ji3)).size : Int) := of_decide_eq_true (by first | (with_reducible assumption) | assumption); omega); have hx21 : ∀ h : 1 < (rdOf ByteArray.empty t157 (ji3)).size, (((rdOf ByteArray.empty t157 (ji3))[1]'h).toNat : Int) = bt (rdOf ByteArray.empty t157 (ji3)) 1 := bt_at (rdOf ByteArray.empty t157 (ji3)) 1; clear p21; have qi21 : (1 < ((rdOf ByteArray.empty t157 (ji3)).size : Int)) = True := eq_true (of_decide_eq_true (by first | (with_reducible assumption) | assumption)); replace q21 := eq_true q21))
                        go_ret
                        exact ⟨by first | rfl | (simp [errW_none, errW_some] <;> rfl) | (simp only [← hji3]; first | rfl | (simp [errW_none, errW_some] <;> rfl)) | (simp [*, errW_none, errW_some] <;> rfl), by repeat (first | (with_reducible first | exact HB.out | apply below_alloc | apply pw_below_drewN | apply below_drew1) | exact HB.out)⟩
                      · rw [if_neg c22] at H
                        have c22b0 : ((bt (rdOf ByteArray.empty t157 (ji3)) 1) == 120) = false := beq_eq_false_iff_ne.mpr c22
                        have c22b1 : ((bt (rdOf ByteArray.empty t157 (ji3)) 1) != 120) = true := bne_iff_ne.mpr c22
                        by_cases c25 : (bt (rdOf ByteArray.empty t157 (ji3)) 1) = 88
                        · rw [if_pos c25] at H
                          have c25b0 : ((bt (rdOf ByteArray.empty t157 (ji3)) 1) == 88) = true := beq_iff_eq.mpr c25
                          have c25b1 : ((bt (rdOf ByteArray.empty t157 (ji3)) 1) != 88) = false := bne_eq_false_iff_eq.mpr c25
                          clear c25
                          obtain rfl := Option.some.inj H
                          go_wp2_with (first | ((with_reducible refine gate_callee (f := 9) rfl ?_); refine goesL_ (some 41) rfl rfl Tryd.func9 (by kernel_rfl) rfl #[.string (rdOf ByteArray.empty t157 (ji3))] rfl (by (try simp only [List.map_toArray, List.map_cons, List.map_nil]); first | done | (simp only [hji3]; rfl) | rfl | (simp only [List.length_drop, List.length_take]; rfl)) ?_; (with_reducible refine (portcullisref10_Number.calls k1 (rdOf ByteArray.empty t157 (ji3)) t161 t162 _ A15.out).mono ?_); rintro e w26 ⟨rfl, hb⟩; refine ⟨_, rfl, ?_⟩; have n0_ := Aside0.mk (below_step (by repeat (first | (with_reducible first | exact HB.out | apply below_alloc | apply pw_below_drewN | apply below_drew1) | exact HB.out)) hb); clear HB; have HB := n0_; clear n0_; (try clear hb); (try clear hb2); (try clear hk); (try clear hi); have p18 : 0 ≤ (0 : Int) := (by omega); have q18 : 0 < (rdOf ByteArray.empty t157 (ji3)).size := (by have : (0 : Int) < ((rdOf ByteArray.empty t157 (ji3)).size : Int) := of_decide_eq_true (by first | (with_reducible assumption) | assumption); omega); have hx18 : ∀ h : 0 < (rdOf ByteArray.empty t157 (ji3)).size, (((rdOf ByteArray.empty t157 (ji3))[0]'h).toNat : Int) = bt (rdOf ByteArray.empty t157 (ji3)) 0 := bt_at (rdOf ByteArray.empty t157 (ji3)) 0; clear p18; have qi18 : (0 < ((rdOf ByteArray.empty t157 (ji3)).size : Int)) = True := eq_true (of_decide_eq_true (by first | (with_reducible assumption) | assumption)); replace q18 := eq_true q18; have p21 : 0 ≤ (1 : Int) := (by omega); have q21 : 1 < (rdOf ByteArray.empty t157 (ji3)).size := (by have : (1 : Int) < ((rdOf ByteArray.empty t157 (ji3)).size : Int) := of_decide_eq_true (by first | (with_reducible assumption) | assumption); omega); have hx21 : ∀ h : 1 < (rdOf ByteArray.empty t157 (ji3)).size, (((rdOf ByteArray.empty t157 (ji3))[1]'h).toNat : Int) = bt (rdOf ByteArray.empty t157 (ji3)) 1 := bt_at (rdOf ByteArray.empty t157 (ji3)) 1; clear p21; have qi21 : (1 < ((rdOf ByteArray.empty t157 (ji3)).size : Int)) = True := eq_true (of_decide_eq_true (by first | (with_reducible assumption) | assumption)); replace q21 := eq_true q21; have p24 : 0 ≤ (1 : Int) := (by omega); have q24 : 1 < (rdOf ByteArray.empty t157 (ji3)).size := (by have : (1 : Int) < ((rdOf ByteArray.empty t157 (ji3)).size : Int) := of_decide_eq_true (by first | (with_reducible assumption) | assumption); omega); have hx24 : ∀ h : 1 < (rdOf ByteArray.empty t157 (ji3)).size, (((rdOf ByteArray.empty t157 (ji3))[1]'h).toNat : Int) = bt (rdOf ByteArray.empty t157 (ji3)) 1 := bt_at (rdOf ByteArray.empty t157 (ji3)) 1; clear p24; have qi24 : (1 < ((rdOf ByteArray.empty t157 (ji3)).size : Int)) = True := eq_true (of_decide_eq_true (by first | (with_reducible assumption) | assumption)); replace q24 := eq_true q24))
                          go_ret
                          exact ⟨by first | rfl | (simp [errW_none, errW_some] <;> rfl) | (simp only [← hji3]; first | rfl | (simp [errW_none, errW_some] <;> rfl)) | (simp [*, errW_none, errW_some] <;> rfl), by repeat (first | (with_reducible first | exact HB.out | apply below_alloc | apply pw_below_drewN | apply below_drew1) | exact HB.out)⟩
                        · rw [if_neg c25] at H
                          have c25b0 : ((bt (rdOf ByteArray.empty t157 (ji3)) 1) == 88) = false := beq_eq_false_iff_ne.mpr c25
                          have c25b1 : ((bt (rdOf ByteArray.empty t157 (ji3)) 1) != 88) = true := bne_iff_ne.mpr c25
                          obtain rfl := Option.some.inj H
                          go_wp2_with (first | ((with_reducible refine gate_callee (f := 9) rfl ?_); refine goesL_ (some 41) rfl rfl Tryd.func9 (by kernel_rfl) rfl #[.string (rdOf ByteArray.empty t157 (ji3))] rfl (by (try simp only [List.map_toArray, List.map_cons, List.map_nil]); first | done | (simp only [hji3]; rfl) | rfl | (simp only [List.length_drop, List.length_take]; rfl)) ?_; (with_reducible refine (portcullisref10_Number.calls k1 (rdOf ByteArray.empty t157 (ji3)) t161 t162 _ A15.out).mono ?_); rintro e w27 ⟨rfl, hb⟩; refine ⟨_, rfl, ?_⟩; have n0_ := Aside0.mk (below_step (by repeat (first | (with_reducible first | exact HB.out | apply below_alloc | apply pw_below_drewN | apply below_drew1) | exact HB.out)) hb); clear HB; have HB := n0_; clear n0_; (try clear hb); (try clear hb2); (try clear hk); (try clear hi); have p18 : 0 ≤ (0 : Int) := (by omega); have q18 : 0 < (rdOf ByteArray.empty t157 (ji3)).size := (by have : (0 : Int) < ((rdOf ByteArray.empty t157 (ji3)).size : Int) := of_decide_eq_true (by first | (with_reducible assumption) | assumption); omega); have hx18 : ∀ h : 0 < (rdOf ByteArray.empty t157 (ji3)).size, (((rdOf ByteArray.empty t157 (ji3))[0]'h).toNat : Int) = bt (rdOf ByteArray.empty t157 (ji3)) 0 := bt_at (rdOf ByteArray.empty t157 (ji3)) 0; clear p18; have qi18 : (0 < ((rdOf ByteArray.empty t157 (ji3)).size : Int)) = True := eq_true (of_decide_eq_true (by first | (with_reducible assumption) | assumption)); replace q18 := eq_true q18; have p21 : 0 ≤ (1 : Int) := (by omega); have q21 : 1 < (rdOf ByteArray.empty t157 (ji3)).size := (by have : (1 : Int) < ((rdOf ByteArray.empty t157 (ji3)).size : Int) := of_decide_eq_true (by first | (with_reducible assumption) | assumption); omega); have hx21 : ∀ h : 1 < (rdOf ByteArray.empty t157 (ji3)).size, (((rdOf ByteArray.empty t157 (ji3))[1]'h).toNat : Int) = bt (rdOf ByteArray.empty t157 (ji3)) 1 := bt_at (rdOf ByteArray.empty t157 (ji3)) 1; clear p21; have qi21 : (1 < ((rdOf ByteArray.empty t157 (ji3)).size : Int)) = True := eq_true (of_decide_eq_true (by first | (with_reducible assumption) | assumption)); replace q21 := eq_true q21; have p24 : 0 ≤ (1 : Int) := (by omega); have q24 : 1 < (rdOf ByteArray.empty t157 (ji3)).size := (by have : (1 : Int) < ((rdOf ByteArray.empty t157 (ji3)).size : Int) := of_decide_eq_true (by first | (with_reducible assumption) | assumption); omega); have hx24 : ∀ h : 1 < (rdOf ByteArray.empty t157 (ji3)).size, (((rdOf ByteArray.empty t157 (ji3))[1]'h).toNat : Int) = bt (rdOf ByteArray.empty t157 (ji3)) 1 := bt_at (rdOf ByteArray.empty t157 (ji3)) 1; clear p24; have qi24 : (1 < ((rdOf ByteArray.empty t157 (ji3)).size : Int)) = True := eq_true (of_decide_eq_true (by first | (with_reducible assumption) | assumption)); replace q24 := eq_true q24))
                          go_ret
                          exact ⟨by first | rfl | (simp [errW_none, errW_some] <;> rfl) | (simp only [← hji3]; first | rfl | (simp [errW_none, errW_some] <;> rfl)) | (simp [*, errW_none, errW_some] <;> rfl), by repeat (first | (with_reducible first | exact HB.out | apply below_alloc | apply pw_below_drewN | apply below_drew1) | exact HB.out)⟩
                    · rw [if_neg c20] at H
                      exact absurd H (by simp)
                  · rw [if_neg c19] at H
                    have c19b0 : ((bt (rdOf ByteArray.empty t157 (ji3)) 0) == 48) = false := beq_eq_false_iff_ne.mpr c19
                    have c19b1 : ((bt (rdOf ByteArray.empty t157 (ji3)) 0) != 48) = true := bne_iff_ne.mpr c19
                    obtain rfl := Option.some.inj H
                    go_wp2_with (first | ((with_reducible refine gate_callee (f := 9) rfl ?_); refine goesL_ (some 41) rfl rfl Tryd.func9 (by kernel_rfl) rfl #[.string (rdOf ByteArray.empty t157 (ji3))] rfl (by (try simp only [List.map_toArray, List.map_cons, List.map_nil]); first | done | (simp only [hji3]; rfl) | rfl | (simp only [List.length_drop, List.length_take]; rfl)) ?_; (with_reducible refine (portcullisref10_Number.calls k1 (rdOf ByteArray.empty t157 (ji3)) t161 t162 _ A15.out).mono ?_); rintro e w28 ⟨rfl, hb⟩; refine ⟨_, rfl, ?_⟩; have n0_ := Aside0.mk (below_step (by repeat (first | (with_reducible first | exact HB.out | apply below_alloc | apply pw_below_drewN | apply below_drew1) | exact HB.out)) hb); clear HB; have HB := n0_; clear n0_; (try clear hb); (try clear hb2); (try clear hk); (try clear hi); have p18 : 0 ≤ (0 : Int) := (by omega); have q18 : 0 < (rdOf ByteArray.empty t157 (ji3)).size := (by have : (0 : Int) < ((rdOf ByteArray.empty t157 (ji3)).size : Int) := of_decide_eq_true (by first | (with_reducible assumption) | assumption); omega); have hx18 : ∀ h : 0 < (rdOf ByteArray.empty t157 (ji3)).size, (((rdOf ByteArray.empty t157 (ji3))[0]'h).toNat : Int) = bt (rdOf ByteArray.empty t157 (ji3)) 0 := bt_at (rdOf ByteArray.empty t157 (ji3)) 0; clear p18; have qi18 : (0 < ((rdOf ByteArray.empty t157 (ji3)).size : Int)) = True := eq_true (of_decide_eq_true (by first | (with_reducible assumption) | assumption)); replace q18 := eq_true q18))
                    go_ret
                    exact ⟨by first | rfl | (simp [errW_none, errW_some] <;> rfl) | (simp only [← hji3]; first | rfl | (simp [errW_none, errW_some] <;> rfl)) | (simp [*, errW_none, errW_some] <;> rfl), by repeat (first | (with_reducible first | exact HB.out | apply below_alloc | apply pw_below_drewN | apply below_drew1) | exact HB.out)⟩
                · rw [if_neg c17] at H
                  exact absurd H (by simp)
              · rw [if_neg c16] at H
                have c16b0 : decide (2 ≤ ((rdOf ByteArray.empty t157 (ji3)).size : Int)) = false := decide_eq_false c16
                have c16b1 : decide (2 ≤ (rdOf ByteArray.empty t157 (ji3)).size) = false := decide_eq_false (by omega)
                clear c16
                obtain rfl := Option.some.inj H
                go_wp2_with (first | ((with_reducible refine gate_callee (f := 9) rfl ?_); refine goesL_ (some 41) rfl rfl Tryd.func9 (by kernel_rfl) rfl #[.string (rdOf ByteArray.empty t157 (ji3))] rfl (by (try simp only [List.map_toArray, List.map_cons, List.map_nil]); first | done | (simp only [hji3]; rfl) | rfl | (simp only [List.length_drop, List.length_take]; rfl)) ?_; (with_reducible refine (portcullisref10_Number.calls k1 (rdOf ByteArray.empty t157 (ji3)) t161 t162 _ A15.out).mono ?_); rintro e w29 ⟨rfl, hb⟩; refine ⟨_, rfl, ?_⟩; have n0_ := Aside0.mk (below_step (by repeat (first | (with_reducible first | exact HB.out | apply below_alloc | apply pw_below_drewN | apply below_drew1) | exact HB.out)) hb); clear HB; have HB := n0_; clear n0_; (try clear hb); (try clear hb2); (try clear hk); (try clear hi)))
                go_ret
                exact ⟨by first | rfl | (simp [errW_none, errW_some] <;> rfl) | (simp only [← hji3]; first | rfl | (simp [errW_none, errW_some] <;> rfl)) | (simp [*, errW_none, errW_some] <;> rfl), by repeat (first | (with_reducible first | exact HB.out | apply below_alloc | apply pw_below_drewN | apply below_drew1) | exact HB.out)⟩
    · rw [if_neg c5] at H
      exact absurd H (by simp)
  · rw [if_neg c4] at H
    exact absurd H (by simp)

end Go.Proofs.YtlnlfglhboccpaaDoor.Pr
