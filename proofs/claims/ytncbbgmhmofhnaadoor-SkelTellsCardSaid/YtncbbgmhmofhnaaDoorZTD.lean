import Derived.Test.YtncbbgmhmofhnaaDoorZTB
import Derived.Test.YtncbbgmhmofhnaaDoorZTC
import Derived.RangeFuncNested
import Derived.RangeFuncBound
import Derived.RangeFuncCalls
import Derived.RangeFuncLeaves
import Derived.Shelf.Abstract
import Derived.Shelf.RegionOpen
import Derived.WalkKit
import Derived.OwnWalkIn
import Derived.TacticsInMore
import Derived.LoopNIn
import Derived.LoopIn
import Derived.Maps.AppendAt
import Derived.Lib.Hide
import Derived.Lib.ConvBytes
import Derived.Shelf.SlSortCmp.Kit1
import Derived.Sort.WalkA
import Derived.Sort.WalkB2
import Derived.Sort.WalkB12
import Derived.Deep.LoopGhost
import Derived.Deep.RegionHeld3
import Derived.IntWalk
section
namespace Go.Proofs.YtncbbgmhmofhnaaDoor.Pr
open Go.RowKit Go.Proofs.YtncbbgmhmofhnaaDoorW.PrintWords Go.Proofs.YtncbbgmhmofhnaaDoorW.PrintLast Go.Proofs.YtncbbgmhmofhnaaDoorW.PrintMore
attribute [local go_sem] max2_int min2_int max_two min_two max_three min_three max_four min_four Instr.field asAgg   -- for this text's walks alone
set_option linter.unusedVariables false
set_option linter.unusedSimpArgs false

mutual
def portcullisref08_Level.l0 : Nat → ByteArray → Bool → Int → Option (Int)
 | 0, _, _, _ => none
 | k + 1, x0, x3, x4 => if x4 < (x0.size : Int) then (if x3 = true then (if 0 ≤ x4 then (portcullisref08_Level.l0 k x0 (decide ((bt x0 x4) < 128)) (wrap64 (x4 + 1))) else (none)) else (portcullisref08_Level.l0 k x0 false (wrap64 (x4 + 1)))) else (if x3 = true then (some 1) else ((portcullisref08_Scripts.f k x0).bind fun t496 => (if (t496.length : Int) ≤ 1 then (some 2) else (portcullisref08_Level.l1 k t496 true false 0 0))))
def portcullisref08_Level.l1 : Nat → List Int → Bool → Bool → Int → Int → Option (Int)
 | 0, _, _, _, _, _ => none
 | k + 1, x5, x6, x7, x8, x9 => if x9 < (x5.length : Int) then (if x6 = true then (if 0 ≤ x9 then (if (rd x5 x9) = 2 then (portcullisref08_Level.l1 k x5 true true x8 (wrap64 (x9 + 1))) else (if (rd x5 x9) = 8 then (portcullisref08_Level.l1 k x5 true x7 (rd x5 x9) (wrap64 (x9 + 1))) else (if (rd x5 x9) = 9 then (portcullisref08_Level.l1 k x5 true x7 (rd x5 x9) (wrap64 (x9 + 1))) else (portcullisref08_Level.l1 k x5 ((rd x5 x9) == 10) x7 (rd x5 x9) (wrap64 (x9 + 1)))))) else (none)) else (if 0 ≤ x9 then (if (rd x5 x9) = 2 then (portcullisref08_Level.l1 k x5 false true x8 (wrap64 (x9 + 1))) else (portcullisref08_Level.l1 k x5 false x7 (rd x5 x9) (wrap64 (x9 + 1)))) else (none))) else (if x6 = true then (some 3) else (if (x5.length : Int) = 2 then (if x7 = true then (if x8 = 3 then (some 5) else (if x8 = 4 then (some 5) else (some 4))) else (some 5)) else (some 5)))
end
def portcullisref08_Level.f (k : Nat) (a0 : ByteArray) : Option (Int) := portcullisref08_Level.l0 k a0 true 0
theorem portcullisref08_Level.mono_l : ∀ k, (∀ y0 y1 y2, LeO (portcullisref08_Level.l0 k y0 y1 y2) (portcullisref08_Level.l0 (k + 1) y0 y1 y2)) ∧ (∀ y0 y1 y2 y3 y4, LeO (portcullisref08_Level.l1 k y0 y1 y2 y3 y4) (portcullisref08_Level.l1 (k + 1) y0 y1 y2 y3 y4))
 | 0 => ⟨fun _ _ _ r h => by simp [portcullisref08_Level.l0] at h, fun _ _ _ _ _ r h => by simp [portcullisref08_Level.l1] at h⟩
 | k + 1 => by
  obtain ⟨ih0, ih1⟩ := portcullisref08_Level.mono_l k
  refine ⟨?_, ?_⟩
  ·intro y0 y1 y2
   unfold portcullisref08_Level.l0
   repeat' first
   | (with_reducible exact ih0 _ _ _)
   | (with_reducible exact ih1 _ _ _ _ _)
   | (with_reducible exact portcullisref08_Scripts.mono _ _)
   | (with_reducible exact LeO.refl _)
   | (with_reducible exact LeO.none _)
   | (with_reducible refine LeO.ite ?_ ?_)
   | (with_reducible refine LeO.bind ?_ (fun _ => ?_))
   | exact ih0 _ _ _
   | exact ih1 _ _ _ _ _
   | exact portcullisref08_Scripts.mono _ _
   | exact LeO.none _
   | refine LeO.ite ?_ ?_
   | refine LeO.bind ?_ (fun _ => ?_)
  ·intro y0 y1 y2 y3 y4
   unfold portcullisref08_Level.l1
   repeat' first
   | (with_reducible exact ih0 _ _ _)
   | (with_reducible exact ih1 _ _ _ _ _)
   | (with_reducible exact portcullisref08_Scripts.mono _ _)
   | (with_reducible exact LeO.refl _)
   | (with_reducible exact LeO.none _)
   | (with_reducible refine LeO.ite ?_ ?_)
   | (with_reducible refine LeO.bind ?_ (fun _ => ?_))
   | exact ih0 _ _ _
   | exact ih1 _ _ _ _ _
   | exact portcullisref08_Scripts.mono _ _
   | exact LeO.none _
   | refine LeO.ite ?_ ?_
   | refine LeO.bind ?_ (fun _ => ?_)
set_option maxHeartbeats 8000000 in
set_option maxRecDepth 100000 in
theorem portcullisref08_Level.calls (k : Nat) (a0 : ByteArray) (r : Int) (w : World) (h : portcullisref08_Level.f k a0 = some r) :
  Calls Tryd.prog 16 #[.string a0] w fun e w' => e = .returned (.int .u8 r) ∧ Below w.heap.size w w' := by
 have HB := Aside0.mk (Below.refl w.heap.size w)
 have H : (portcullisref08_Level.l0 k a0 true 0) = some r := h
 clear h
 have H' := Aside0.mk H
 clear H
 go_enter Tryd.func16, Tryd.ntmps16
 go_wp2
 go_loopg [3, 4] k (fun kq v3 v4 w' => ∃ (x3_1 : Bool) (x4_1 : Int), v3 = .bool x3_1 ∧ v4 = .int .i64 x4_1 ∧ Aside0 (portcullisref08_Level.l0 kq a0 x3_1 x4_1 = some r) ∧ Aside0 (kq ≤ k) ∧ Aside0 (Below w.heap.size w w'))
 case atStart => exact ⟨(true), (0), (by first | rfl | (simp; done) | (simp [*]; done)), (by first | rfl | (simp; done) | (simp [*]; done)), H', ⟨Nat.le_refl _⟩, ⟨by repeat (first | (with_reducible first | exact HB.out | apply below_alloc | apply pw_below_drewN | apply below_drew1) | exact HB.out)⟩⟩
 case round =>
  clear H'
  try clear c1
  obtain ⟨x3_1, x4_1, rfl, rfl, HA, HK1, HB⟩ := hrel
  cases gk with
  | zero => exact absurd HA.out (by simp [portcullisref08_Level.l0])
  | succ k1 =>
   have H := HA.out
   clear HA
   simp only [portcullisref08_Level.l0] at H
   by_cases c2 : x4_1 < (a0.size : Int)
   ·rw [if_pos c2] at H
    have c2b0 : decide (x4_1 < (a0.size : Int)) = true := decide_eq_true c2
    clear c2
    by_cases c3 : x3_1 = true
    ·subst c3
     have H1 : (if 0 ≤ x4_1 then (portcullisref08_Level.l0 k1 a0 (decide ((bt a0 x4_1) < 128)) (wrap64 (x4_1 + 1))) else (none)) = some r := by rw [if_pos rfl] at H; exact H
     clear H
     have H := H1
     clear H1
     by_cases c4 : 0 ≤ x4_1
     ·rw [if_pos c4] at H
      have c4b0 : decide (0 ≤ x4_1) = true := decide_eq_true c4
      clear c4
      have H' := Aside0.mk H
      clear H
      have p5 : 0 ≤ (x4_1 : Int) := of_decide_eq_true (by first | (with_reducible assumption) | assumption)
      have q5 : x4_1 < (a0.size : Int) := of_decide_eq_true (by first | (with_reducible assumption) | assumption)
      have hx5 := bt_at a0 x4_1
      replace p5 := eq_true p5
      replace q5 := eq_true q5
      go_wp2
      go_roundg k1
      case measure => have := HK1.out; omega
      case rel => exact ⟨(decide ((bt a0 x4_1) < 128)), (wrap64 (x4_1 + 1)), (by first | rfl | (simp; done) | (simp [*]; done)), (by first | rfl | (simp; done) | (simp [*]; done)), H', ⟨by have := HK1.out; omega⟩, ⟨by repeat (first | (with_reducible first | exact HB.out | apply below_alloc | apply pw_below_drewN | apply below_drew1) | exact HB.out)⟩⟩
     ·rw [if_neg c4] at H
      exact absurd H (by simp)
    ·replace c3 := Bool.eq_false_iff.mpr c3
     subst c3
     have H1 : (portcullisref08_Level.l0 k1 a0 false (wrap64 (x4_1 + 1))) = some r := by rw [if_neg (show ¬ (false = true) by decide)] at H; exact H
     clear H
     have H := H1
     clear H1
     have H' := Aside0.mk H
     clear H
     go_wp2
     go_roundg k1
     case measure => have := HK1.out; omega
     case rel => exact ⟨(false), (wrap64 (x4_1 + 1)), (by first | rfl | (simp; done) | (simp [*]; done)), (by first | rfl | (simp; done) | (simp [*]; done)), H', ⟨by have := HK1.out; omega⟩, ⟨by repeat (first | (with_reducible first | exact HB.out | apply below_alloc | apply pw_below_drewN | apply below_drew1) | exact HB.out)⟩⟩
   ·rw [if_neg c2] at H
    have c2b0 : decide (x4_1 < (a0.size : Int)) = false := decide_eq_false c2
    clear c2
    by_cases c6 : x3_1 = true
    ·subst c6
     have H1 : (some 1) = some r := by rw [if_pos rfl] at H; exact H
     clear H
     have H := H1
     clear H1
     obtain rfl := Option.some.inj H
     go_wp2
     go_ret
     exact ⟨by first | rfl | (simp [errW_none, errW_some] <;> rfl) | (simp [*, errW_none, errW_some] <;> rfl), by repeat (first | (with_reducible first | exact HB.out | apply below_alloc | apply pw_below_drewN | apply below_drew1) | exact HB.out)⟩
    ·replace c6 := Bool.eq_false_iff.mpr c6
     subst c6
     have H1 : ((portcullisref08_Scripts.f k1 a0).bind fun t496 => (if (t496.length : Int) ≤ 1 then (some 2) else (portcullisref08_Level.l1 k1 t496 true false 0 0))) = some r := by rw [if_neg (show ¬ (false = true) by decide)] at H; exact H
     clear H
     have H := H1
     clear H1
     replace H := Option.bind_eq_some_iff.mp H
     obtain ⟨t496, A70, H⟩ := H
     replace H : (if (t496.length : Int) ≤ 1 then (some 2) else (portcullisref08_Level.l1 k1 t496 true false 0 0)) = some r := H
     have A7 := Aside0.mk A70
     clear A70
     by_cases c8 : (t496.length : Int) ≤ 1
     ·rw [if_pos c8] at H
      have c8b0 : decide ((t496.length : Int) ≤ 1) = true := decide_eq_true c8
      have c8b1 : decide (t496.length ≤ 1) = true := decide_eq_true (by omega)
      clear c8
      obtain rfl := Option.some.inj H
      go_wp2_with (first | ((with_reducible refine gate_callee (f := 14) rfl ?_); refine goesL_ (some 25) rfl rfl Tryd.func14 (by kernel_rfl) rfl #[.string a0] rfl (by (try simp only [List.map_toArray, List.map_cons, List.map_nil]); first | done | rfl | (simp only [List.length_drop, List.length_take]; rfl)) ?_; (with_reducible refine (portcullisref08_Scripts.calls k1 a0 t496 _ A7.out).mono ?_); rintro e w9 ⟨v497, rfl, ho0, hb⟩; refine ⟨_, rfl, ?_⟩; have n0_ := Aside0.mk (Kd.R_lower ho0 (below_size (by repeat (first | (with_reducible first | exact HB.out | apply below_alloc | apply pw_below_drewN | apply below_drew1) | exact HB.out)))); have n1_ := Aside0.mk (below_step (by repeat (first | (with_reducible first | exact HB.out | apply below_alloc | apply pw_below_drewN | apply below_drew1) | exact HB.out)) hb); clear HB; have HO498 := n0_; have HB := n1_; clear n0_ n1_; (try clear hb); (try clear hb2); (try clear hk); (try clear hi); (try clear ho0); obtain ⟨Ao10, co10, eo10⟩ := Kd.R_slice HO498.out; subst eo10))
      go_ret
      exact ⟨by first | rfl | (simp [errW_none, errW_some] <;> rfl) | (simp [*, errW_none, errW_some] <;> rfl), by repeat (first | (with_reducible first | exact HB.out | apply below_alloc | apply pw_below_drewN | apply below_drew1) | exact HB.out)⟩
     ·rw [if_neg c8] at H
      have c8b0 : decide ((t496.length : Int) ≤ 1) = false := decide_eq_false c8
      have c8b1 : decide (t496.length ≤ 1) = false := decide_eq_false (by omega)
      clear c8
      have H' := Aside0.mk H
      clear H
      go_wp2_with (first | ((with_reducible refine gate_callee (f := 14) rfl ?_); refine goesL_ (some 25) rfl rfl Tryd.func14 (by kernel_rfl) rfl #[.string a0] rfl (by (try simp only [List.map_toArray, List.map_cons, List.map_nil]); first | done | rfl | (simp only [List.length_drop, List.length_take]; rfl)) ?_; (with_reducible refine (portcullisref08_Scripts.calls k1 a0 t496 _ A7.out).mono ?_); rintro e w11 ⟨v497, rfl, ho0, hb⟩; refine ⟨_, rfl, ?_⟩; have n0_ := Aside0.mk (Kd.R_lower ho0 (below_size (by repeat (first | (with_reducible first | exact HB.out | apply below_alloc | apply pw_below_drewN | apply below_drew1) | exact HB.out)))); have n1_ := Aside0.mk (below_step (by repeat (first | (with_reducible first | exact HB.out | apply below_alloc | apply pw_below_drewN | apply below_drew1) | exact HB.out)) hb); clear HB; have HO498 := n0_; have HB := n1_; clear n0_ n1_; (try clear hb); (try clear hb2); (try clear hk); (try clear hi); (try clear ho0); obtain ⟨Ao12, co12, eo12⟩ := Kd.R_slice HO498.out; subst eo12))
      go_loopg [6, 7, 8, 9] k1 (fun kq v6 v7 v8 v9 w' => ∃ (x6_2 : Bool) (x7_2 : Bool) (x8_2 : Int) (x9_2 : Int), v6 = .bool x6_2 ∧ v7 = .bool x7_2 ∧ v8 = .int .u8 x8_2 ∧ v9 = .int .i64 x9_2 ∧ Aside0 (portcullisref08_Level.l1 kq t496 x6_2 x7_2 x8_2 x9_2 = some r) ∧ Aside0 (kq ≤ k1) ∧ Aside0 (Kd.R (Kd.int .u8) 5 w' w.heap.size (fun _ => True) (.slice Ao12 t496.length co12) t496) ∧ Aside0 (Below w.heap.size w w'))
      case atStart => exact ⟨(true), (false), (0), (0), (by first | rfl | (simp; done) | (simp [*]; done)), (by first | rfl | (simp; done) | (simp [*]; done)), (by first | rfl | (simp; done) | (simp [*]; done)), (by first | rfl | (simp; done) | (simp [*]; done)), H', ⟨Nat.le_refl _⟩, ⟨by (with_reducible repeat (first | apply Kd.R_alloc | apply Kd.R_drewN | apply Kd.R_drew)); exact HO498.out⟩, ⟨by repeat (first | (with_reducible first | exact HB.out | apply below_alloc | apply pw_below_drewN | apply below_drew1) | exact HB.out)⟩⟩
      case round =>
       clear H'
       try clear c1
       try clear c2
       try clear c2b0
       try clear p2
       try clear c3
       try clear c4
       try clear c4b0
       try clear p5
       try clear q5
       try clear hx5
       try clear c6
       try clear p6
       try clear c8
       try clear c8b0
       try clear c8b1
       try clear p5
       try clear q5
       obtain ⟨x6_2, x7_2, x8_2, x9_2, rfl, rfl, rfl, rfl, HA, HK2, HO_5, HB⟩ := hrel
       cases gk with
       | zero => exact absurd HA.out (by simp [portcullisref08_Level.l1])
       | succ k2 =>
        have H := HA.out
        clear HA
        simp only [portcullisref08_Level.l1] at H
        by_cases c13 : x9_2 < (t496.length : Int)
        ·rw [if_pos c13] at H
         have c13b0 : decide (x9_2 < (t496.length : Int)) = true := decide_eq_true c13
         clear c13
         by_cases c14 : x6_2 = true
         ·subst c14
          have H1 : (if 0 ≤ x9_2 then (if (rd t496 x9_2) = 2 then (portcullisref08_Level.l1 k2 t496 true true x8_2 (wrap64 (x9_2 + 1))) else (if (rd t496 x9_2) = 8 then (portcullisref08_Level.l1 k2 t496 true x7_2 (rd t496 x9_2) (wrap64 (x9_2 + 1))) else (if (rd t496 x9_2) = 9 then (portcullisref08_Level.l1 k2 t496 true x7_2 (rd t496 x9_2) (wrap64 (x9_2 + 1))) else (portcullisref08_Level.l1 k2 t496 ((rd t496 x9_2) == 10) x7_2 (rd t496 x9_2) (wrap64 (x9_2 + 1)))))) else (none)) = some r := by rw [if_pos rfl] at H; exact H
          clear H
          have H := H1
          clear H1
          by_cases c15 : 0 ≤ x9_2
          ·rw [if_pos c15] at H
           have c15b0 : decide (0 ≤ x9_2) = true := decide_eq_true c15
           clear c15
           by_cases c16 : (rd t496 x9_2) = 2
           ·rw [if_pos c16] at H
            have c16b0 : ((rd t496 x9_2) == 2) = true := beq_iff_eq.mpr c16
            have c16b1 : ((rd t496 x9_2) != 2) = false := bne_eq_false_iff_eq.mpr c16
            clear c16
            have H' := Aside0.mk H
            clear H
            have p499 : 0 ≤ (x9_2 : Int) := of_decide_eq_true (by first | (with_reducible assumption) | assumption)
            have q499 : x9_2 < (t496.length : Int) := of_decide_eq_true (by first | (with_reducible assumption) | assumption)
            obtain ⟨ad499, e499, hx499_0⟩ := Kd.at_int (Kd.R_reads' HO_5.out).2.2 x9_2 p499 q499
            cases e499
            replace p499 := eq_true p499
            replace q499 := eq_true q499
            have p500 : 0 ≤ (x9_2 : Int) := of_decide_eq_true (by first | (with_reducible assumption) | assumption)
            have q500 : x9_2 < (t496.length : Int) := of_decide_eq_true (by first | (with_reducible assumption) | assumption)
            obtain ⟨ad500, e500, hx500_0⟩ := Kd.at_int (Kd.R_reads' HO_5.out).2.2 x9_2 p500 q500
            obtain rfl : ad499 = ad500 := (by injection e500)
            replace p500 := eq_true p500
            replace q500 := eq_true q500
            go_wp2
            go_roundg k2
            case measure => have := HK1.out; have := HK2.out; omega
            case rel => exact ⟨(true), (true), (x8_2), (wrap64 (x9_2 + 1)), (by first | rfl | (simp; done) | (simp [*]; done)), (by first | rfl | (simp; done) | (simp [*]; done)), (by first | rfl | (simp; done) | (simp [*]; done)), (by first | rfl | (simp; done) | (simp [*]; done)), H', ⟨by have := HK1.out; have := HK2.out; omega⟩, ⟨by (with_reducible repeat (first | apply Kd.R_alloc | apply Kd.R_drewN | apply Kd.R_drew)); exact HO_5.out⟩, ⟨by repeat (first | (with_reducible first | exact HB.out | apply below_alloc | apply pw_below_drewN | apply below_drew1) | exact HB.out)⟩⟩
           ·rw [if_neg c16] at H
            have c16b0 : ((rd t496 x9_2) == 2) = false := beq_eq_false_iff_ne.mpr c16
            have c16b1 : ((rd t496 x9_2) != 2) = true := bne_iff_ne.mpr c16
            by_cases c17 : (rd t496 x9_2) = 8
            ·rw [if_pos c17] at H
             have c17b0 : ((rd t496 x9_2) == 8) = true := beq_iff_eq.mpr c17
             have c17b1 : ((rd t496 x9_2) != 8) = false := bne_eq_false_iff_eq.mpr c17
             clear c17
             have H' := Aside0.mk H
             clear H
             have p499 : 0 ≤ (x9_2 : Int) := of_decide_eq_true (by first | (with_reducible assumption) | assumption)
             have q499 : x9_2 < (t496.length : Int) := of_decide_eq_true (by first | (with_reducible assumption) | assumption)
             obtain ⟨ad499, e499, hx499_0⟩ := Kd.at_int (Kd.R_reads' HO_5.out).2.2 x9_2 p499 q499
             cases e499
             replace p499 := eq_true p499
             replace q499 := eq_true q499
             have p501 : 0 ≤ (x9_2 : Int) := of_decide_eq_true (by first | (with_reducible assumption) | assumption)
             have q501 : x9_2 < (t496.length : Int) := of_decide_eq_true (by first | (with_reducible assumption) | assumption)
             obtain ⟨ad501, e501, hx501_0⟩ := Kd.at_int (Kd.R_reads' HO_5.out).2.2 x9_2 p501 q501
             obtain rfl : ad499 = ad501 := (by injection e501)
             replace p501 := eq_true p501
             replace q501 := eq_true q501
             have p502 : 0 ≤ (x9_2 : Int) := of_decide_eq_true (by first | (with_reducible assumption) | assumption)
             have q502 : x9_2 < (t496.length : Int) := of_decide_eq_true (by first | (with_reducible assumption) | assumption)
             obtain ⟨ad502, e502, hx502_0⟩ := Kd.at_int (Kd.R_reads' HO_5.out).2.2 x9_2 p502 q502
             obtain rfl : ad499 = ad502 := (by injection e502)
             replace p502 := eq_true p502
             replace q502 := eq_true q502
             have p503 : 0 ≤ (x9_2 : Int) := of_decide_eq_true (by first | (with_reducible assumption) | assumption)
             have q503 : x9_2 < (t496.length : Int) := of_decide_eq_true (by first | (with_reducible assumption) | assumption)
             obtain ⟨ad503, e503, hx503_0⟩ := Kd.at_int (Kd.R_reads' HO_5.out).2.2 x9_2 p503 q503
             obtain rfl : ad499 = ad503 := (by injection e503)
             replace p503 := eq_true p503
             replace q503 := eq_true q503
             go_wp2
             go_roundg k2
             case measure => have := HK1.out; have := HK2.out; omega
             case rel => exact ⟨(true), (x7_2), (rd t496 x9_2), (wrap64 (x9_2 + 1)), (by first | rfl | (simp; done) | (simp [*]; done)), (by first | rfl | (simp; done) | (simp [*]; done)), (by first | rfl | (simp; done) | (simp [*]; done)), (by first | rfl | (simp; done) | (simp [*]; done)), H', ⟨by have := HK1.out; have := HK2.out; omega⟩, ⟨by (with_reducible repeat (first | apply Kd.R_alloc | apply Kd.R_drewN | apply Kd.R_drew)); exact HO_5.out⟩, ⟨by repeat (first | (with_reducible first | exact HB.out | apply below_alloc | apply pw_below_drewN | apply below_drew1) | exact HB.out)⟩⟩
            ·rw [if_neg c17] at H
             have c17b0 : ((rd t496 x9_2) == 8) = false := beq_eq_false_iff_ne.mpr c17
             have c17b1 : ((rd t496 x9_2) != 8) = true := bne_iff_ne.mpr c17
             by_cases c18 : (rd t496 x9_2) = 9
             ·rw [if_pos c18] at H
              have c18b0 : ((rd t496 x9_2) == 9) = true := beq_iff_eq.mpr c18
              have c18b1 : ((rd t496 x9_2) != 9) = false := bne_eq_false_iff_eq.mpr c18
              clear c18
              have H' := Aside0.mk H
              clear H
              have p499 : 0 ≤ (x9_2 : Int) := of_decide_eq_true (by first | (with_reducible assumption) | assumption)
              have q499 : x9_2 < (t496.length : Int) := of_decide_eq_true (by first | (with_reducible assumption) | assumption)
              obtain ⟨ad499, e499, hx499_0⟩ := Kd.at_int (Kd.R_reads' HO_5.out).2.2 x9_2 p499 q499
              cases e499
              replace p499 := eq_true p499
              replace q499 := eq_true q499
              have p501 : 0 ≤ (x9_2 : Int) := of_decide_eq_true (by first | (with_reducible assumption) | assumption)
              have q501 : x9_2 < (t496.length : Int) := of_decide_eq_true (by first | (with_reducible assumption) | assumption)
              obtain ⟨ad501, e501, hx501_0⟩ := Kd.at_int (Kd.R_reads' HO_5.out).2.2 x9_2 p501 q501
              obtain rfl : ad499 = ad501 := (by injection e501)
              replace p501 := eq_true p501
              replace q501 := eq_true q501
              have p504 : 0 ≤ (x9_2 : Int) := of_decide_eq_true (by first | (with_reducible assumption) | assumption)
              have q504 : x9_2 < (t496.length : Int) := of_decide_eq_true (by first | (with_reducible assumption) | assumption)
              obtain ⟨ad504, e504, hx504_0⟩ := Kd.at_int (Kd.R_reads' HO_5.out).2.2 x9_2 p504 q504
              obtain rfl : ad499 = ad504 := (by injection e504)
              replace p504 := eq_true p504
              replace q504 := eq_true q504
              have p505 : 0 ≤ (x9_2 : Int) := of_decide_eq_true (by first | (with_reducible assumption) | assumption)
              have q505 : x9_2 < (t496.length : Int) := of_decide_eq_true (by first | (with_reducible assumption) | assumption)
              obtain ⟨ad505, e505, hx505_0⟩ := Kd.at_int (Kd.R_reads' HO_5.out).2.2 x9_2 p505 q505
              obtain rfl : ad499 = ad505 := (by injection e505)
              replace p505 := eq_true p505
              replace q505 := eq_true q505
              have p506 : 0 ≤ (x9_2 : Int) := of_decide_eq_true (by first | (with_reducible assumption) | assumption)
              have q506 : x9_2 < (t496.length : Int) := of_decide_eq_true (by first | (with_reducible assumption) | assumption)
              obtain ⟨ad506, e506, hx506_0⟩ := Kd.at_int (Kd.R_reads' HO_5.out).2.2 x9_2 p506 q506
              obtain rfl : ad499 = ad506 := (by injection e506)
              replace p506 := eq_true p506
              replace q506 := eq_true q506
              go_wp2
              go_roundg k2
              case measure => have := HK1.out; have := HK2.out; omega
              case rel => exact ⟨(true), (x7_2), (rd t496 x9_2), (wrap64 (x9_2 + 1)), (by first | rfl | (simp; done) | (simp [*]; done)), (by first | rfl | (simp; done) | (simp [*]; done)), (by first | rfl | (simp; done) | (simp [*]; done)), (by first | rfl | (simp; done) | (simp [*]; done)), H', ⟨by have := HK1.out; have := HK2.out; omega⟩, ⟨by (with_reducible repeat (first | apply Kd.R_alloc | apply Kd.R_drewN | apply Kd.R_drew)); exact HO_5.out⟩, ⟨by repeat (first | (with_reducible first | exact HB.out | apply below_alloc | apply pw_below_drewN | apply below_drew1) | exact HB.out)⟩⟩
             ·rw [if_neg c18] at H
              have c18b0 : ((rd t496 x9_2) == 9) = false := beq_eq_false_iff_ne.mpr c18
              have c18b1 : ((rd t496 x9_2) != 9) = true := bne_iff_ne.mpr c18
              have H' := Aside0.mk H
              clear H
              have p499 : 0 ≤ (x9_2 : Int) := of_decide_eq_true (by first | (with_reducible assumption) | assumption)
              have q499 : x9_2 < (t496.length : Int) := of_decide_eq_true (by first | (with_reducible assumption) | assumption)
              obtain ⟨ad499, e499, hx499_0⟩ := Kd.at_int (Kd.R_reads' HO_5.out).2.2 x9_2 p499 q499
              cases e499
              replace p499 := eq_true p499
              replace q499 := eq_true q499
              have p501 : 0 ≤ (x9_2 : Int) := of_decide_eq_true (by first | (with_reducible assumption) | assumption)
              have q501 : x9_2 < (t496.length : Int) := of_decide_eq_true (by first | (with_reducible assumption) | assumption)
              obtain ⟨ad501, e501, hx501_0⟩ := Kd.at_int (Kd.R_reads' HO_5.out).2.2 x9_2 p501 q501
              obtain rfl : ad499 = ad501 := (by injection e501)
              replace p501 := eq_true p501
              replace q501 := eq_true q501
              have p504 : 0 ≤ (x9_2 : Int) := of_decide_eq_true (by first | (with_reducible assumption) | assumption)
              have q504 : x9_2 < (t496.length : Int) := of_decide_eq_true (by first | (with_reducible assumption) | assumption)
              obtain ⟨ad504, e504, hx504_0⟩ := Kd.at_int (Kd.R_reads' HO_5.out).2.2 x9_2 p504 q504
              obtain rfl : ad499 = ad504 := (by injection e504)
              replace p504 := eq_true p504
              replace q504 := eq_true q504
              have p507 : 0 ≤ (x9_2 : Int) := of_decide_eq_true (by first | (with_reducible assumption) | assumption)
              have q507 : x9_2 < (t496.length : Int) := of_decide_eq_true (by first | (with_reducible assumption) | assumption)
              obtain ⟨ad507, e507, hx507_0⟩ := Kd.at_int (Kd.R_reads' HO_5.out).2.2 x9_2 p507 q507
              obtain rfl : ad499 = ad507 := (by injection e507)
              replace p507 := eq_true p507
              replace q507 := eq_true q507
              have p508 : 0 ≤ (x9_2 : Int) := of_decide_eq_true (by first | (with_reducible assumption) | assumption)
              have q508 : x9_2 < (t496.length : Int) := of_decide_eq_true (by first | (with_reducible assumption) | assumption)
              obtain ⟨ad508, e508, hx508_0⟩ := Kd.at_int (Kd.R_reads' HO_5.out).2.2 x9_2 p508 q508
              obtain rfl : ad499 = ad508 := (by injection e508)
              replace p508 := eq_true p508
              replace q508 := eq_true q508
              have p509 : 0 ≤ (x9_2 : Int) := of_decide_eq_true (by first | (with_reducible assumption) | assumption)
              have q509 : x9_2 < (t496.length : Int) := of_decide_eq_true (by first | (with_reducible assumption) | assumption)
              obtain ⟨ad509, e509, hx509_0⟩ := Kd.at_int (Kd.R_reads' HO_5.out).2.2 x9_2 p509 q509
              obtain rfl : ad499 = ad509 := (by injection e509)
              replace p509 := eq_true p509
              replace q509 := eq_true q509
              go_wp2
              go_roundg k2
              case measure => have := HK1.out; have := HK2.out; omega
              case rel => exact ⟨(((rd t496 x9_2) == 10)), (x7_2), (rd t496 x9_2), (wrap64 (x9_2 + 1)), (by first | rfl | (simp; done) | (simp [*]; done)), (by first | rfl | (simp; done) | (simp [*]; done)), (by first | rfl | (simp; done) | (simp [*]; done)), (by first | rfl | (simp; done) | (simp [*]; done)), H', ⟨by have := HK1.out; have := HK2.out; omega⟩, ⟨by (with_reducible repeat (first | apply Kd.R_alloc | apply Kd.R_drewN | apply Kd.R_drew)); exact HO_5.out⟩, ⟨by repeat (first | (with_reducible first | exact HB.out | apply below_alloc | apply pw_below_drewN | apply below_drew1) | exact HB.out)⟩⟩
          ·rw [if_neg c15] at H
           exact absurd H (by simp)
         ·replace c14 := Bool.eq_false_iff.mpr c14
          subst c14
          have H1 : (if 0 ≤ x9_2 then (if (rd t496 x9_2) = 2 then (portcullisref08_Level.l1 k2 t496 false true x8_2 (wrap64 (x9_2 + 1))) else (portcullisref08_Level.l1 k2 t496 false x7_2 (rd t496 x9_2) (wrap64 (x9_2 + 1)))) else (none)) = some r := by rw [if_neg (show ¬ (false = true) by decide)] at H; exact H
          clear H
          have H := H1
          clear H1
          by_cases c19 : 0 ≤ x9_2
          ·rw [if_pos c19] at H
           have c19b0 : decide (0 ≤ x9_2) = true := decide_eq_true c19
           clear c19
           by_cases c20 : (rd t496 x9_2) = 2
           ·rw [if_pos c20] at H
            have c20b0 : ((rd t496 x9_2) == 2) = true := beq_iff_eq.mpr c20
            have c20b1 : ((rd t496 x9_2) != 2) = false := bne_eq_false_iff_eq.mpr c20
            clear c20
            have H' := Aside0.mk H
            clear H
            have p510 : 0 ≤ (x9_2 : Int) := of_decide_eq_true (by first | (with_reducible assumption) | assumption)
            have q510 : x9_2 < (t496.length : Int) := of_decide_eq_true (by first | (with_reducible assumption) | assumption)
            obtain ⟨ad510, e510, hx510_0⟩ := Kd.at_int (Kd.R_reads' HO_5.out).2.2 x9_2 p510 q510
            cases e510
            replace p510 := eq_true p510
            replace q510 := eq_true q510
            go_wp2
            go_roundg k2
            case measure => have := HK1.out; have := HK2.out; omega
            case rel => exact ⟨(false), (true), (x8_2), (wrap64 (x9_2 + 1)), (by first | rfl | (simp; done) | (simp [*]; done)), (by first | rfl | (simp; done) | (simp [*]; done)), (by first | rfl | (simp; done) | (simp [*]; done)), (by first | rfl | (simp; done) | (simp [*]; done)), H', ⟨by have := HK1.out; have := HK2.out; omega⟩, ⟨by (with_reducible repeat (first | apply Kd.R_alloc | apply Kd.R_drewN | apply Kd.R_drew)); exact HO_5.out⟩, ⟨by repeat (first | (with_reducible first | exact HB.out | apply below_alloc | apply pw_below_drewN | apply below_drew1) | exact HB.out)⟩⟩
           ·rw [if_neg c20] at H
            have c20b0 : ((rd t496 x9_2) == 2) = false := beq_eq_false_iff_ne.mpr c20
            have c20b1 : ((rd t496 x9_2) != 2) = true := bne_iff_ne.mpr c20
            have H' := Aside0.mk H
            clear H
            have p510 : 0 ≤ (x9_2 : Int) := of_decide_eq_true (by first | (with_reducible assumption) | assumption)
            have q510 : x9_2 < (t496.length : Int) := of_decide_eq_true (by first | (with_reducible assumption) | assumption)
            obtain ⟨ad510, e510, hx510_0⟩ := Kd.at_int (Kd.R_reads' HO_5.out).2.2 x9_2 p510 q510
            cases e510
            replace p510 := eq_true p510
            replace q510 := eq_true q510
            have p511 : 0 ≤ (x9_2 : Int) := of_decide_eq_true (by first | (with_reducible assumption) | assumption)
            have q511 : x9_2 < (t496.length : Int) := of_decide_eq_true (by first | (with_reducible assumption) | assumption)
            obtain ⟨ad511, e511, hx511_0⟩ := Kd.at_int (Kd.R_reads' HO_5.out).2.2 x9_2 p511 q511
            obtain rfl : ad510 = ad511 := (by injection e511)
            replace p511 := eq_true p511
            replace q511 := eq_true q511
            go_wp2
            go_roundg k2
            case measure => have := HK1.out; have := HK2.out; omega
            case rel => exact ⟨(false), (x7_2), (rd t496 x9_2), (wrap64 (x9_2 + 1)), (by first | rfl | (simp; done) | (simp [*]; done)), (by first | rfl | (simp; done) | (simp [*]; done)), (by first | rfl | (simp; done) | (simp [*]; done)), (by first | rfl | (simp; done) | (simp [*]; done)), H', ⟨by have := HK1.out; have := HK2.out; omega⟩, ⟨by (with_reducible repeat (first | apply Kd.R_alloc | apply Kd.R_drewN | apply Kd.R_drew)); exact HO_5.out⟩, ⟨by repeat (first | (with_reducible first | exact HB.out | apply below_alloc | apply pw_below_drewN | apply below_drew1) | exact HB.out)⟩⟩
          ·rw [if_neg c19] at H
           exact absurd H (by simp)
        ·rw [if_neg c13] at H
         have c13b0 : decide (x9_2 < (t496.length : Int)) = false := decide_eq_false c13
         clear c13
         by_cases c21 : x6_2 = true
         ·subst c21
          have H1 : (some 3) = some r := by rw [if_pos rfl] at H; exact H
          clear H
          have H := H1
          clear H1
          obtain rfl := Option.some.inj H
          go_wp2
          go_ret
          exact ⟨by first | rfl | (simp [errW_none, errW_some] <;> rfl) | (simp [*, errW_none, errW_some] <;> rfl), by repeat (first | (with_reducible first | exact HB.out | apply below_alloc | apply pw_below_drewN | apply below_drew1) | exact HB.out)⟩
         ·replace c21 := Bool.eq_false_iff.mpr c21
          subst c21
          have H1 : (if (t496.length : Int) = 2 then (if x7_2 = true then (if x8_2 = 3 then (some 5) else (if x8_2 = 4 then (some 5) else (some 4))) else (some 5)) else (some 5)) = some r := by rw [if_neg (show ¬ (false = true) by decide)] at H; exact H
          clear H
          have H := H1
          clear H1
          by_cases c22 : (t496.length : Int) = 2
          ·rw [if_pos c22] at H
           have c22b0 : ((t496.length : Int) == 2) = true := beq_iff_eq.mpr c22
           have c22b1 : ((t496.length : Int) != 2) = false := bne_eq_false_iff_eq.mpr c22
           clear c22
           by_cases c23 : x7_2 = true
           ·subst c23
            have H1 : (if x8_2 = 3 then (some 5) else (if x8_2 = 4 then (some 5) else (some 4))) = some r := by rw [if_pos rfl] at H; exact H
            clear H
            have H := H1
            clear H1
            by_cases c24 : x8_2 = 3
            ·rw [if_pos c24] at H
             have c24b0 : (x8_2 == 3) = true := beq_iff_eq.mpr c24
             have c24b1 : (x8_2 != 3) = false := bne_eq_false_iff_eq.mpr c24
             clear c24
             obtain rfl := Option.some.inj H
             go_wp2
             go_ret
             exact ⟨by first | rfl | (simp [errW_none, errW_some] <;> rfl) | (simp [*, errW_none, errW_some] <;> rfl), by repeat (first | (with_reducible first | exact HB.out | apply below_alloc | apply pw_below_drewN | apply below_drew1) | exact HB.out)⟩
            ·rw [if_neg c24] at H
             have c24b0 : (x8_2 == 3) = false := beq_eq_false_iff_ne.mpr c24
             have c24b1 : (x8_2 != 3) = true := bne_iff_ne.mpr c24
             by_cases c25 : x8_2 = 4
             ·rw [if_pos c25] at H
              have c25b0 : (x8_2 == 4) = true := beq_iff_eq.mpr c25
              have c25b1 : (x8_2 != 4) = false := bne_eq_false_iff_eq.mpr c25
              clear c25
              obtain rfl := Option.some.inj H
              go_wp2
              go_ret
              exact ⟨by first | rfl | (simp [errW_none, errW_some] <;> rfl) | (simp [*, errW_none, errW_some] <;> rfl), by repeat (first | (with_reducible first | exact HB.out | apply below_alloc | apply pw_below_drewN | apply below_drew1) | exact HB.out)⟩
             ·rw [if_neg c25] at H
              have c25b0 : (x8_2 == 4) = false := beq_eq_false_iff_ne.mpr c25
              have c25b1 : (x8_2 != 4) = true := bne_iff_ne.mpr c25
              obtain rfl := Option.some.inj H
              go_wp2
              go_ret
              exact ⟨by first | rfl | (simp [errW_none, errW_some] <;> rfl) | (simp [*, errW_none, errW_some] <;> rfl), by repeat (first | (with_reducible first | exact HB.out | apply below_alloc | apply pw_below_drewN | apply below_drew1) | exact HB.out)⟩
           ·replace c23 := Bool.eq_false_iff.mpr c23
            subst c23
            have H1 : (some 5) = some r := by rw [if_neg (show ¬ (false = true) by decide)] at H; exact H
            clear H
            have H := H1
            clear H1
            obtain rfl := Option.some.inj H
            go_wp2
            go_ret
            exact ⟨by first | rfl | (simp [errW_none, errW_some] <;> rfl) | (simp [*, errW_none, errW_some] <;> rfl), by repeat (first | (with_reducible first | exact HB.out | apply below_alloc | apply pw_below_drewN | apply below_drew1) | exact HB.out)⟩
          ·rw [if_neg c22] at H
           have c22b0 : ((t496.length : Int) == 2) = false := beq_eq_false_iff_ne.mpr c22
           have c22b1 : ((t496.length : Int) != 2) = true := bne_iff_ne.mpr c22
           obtain rfl := Option.some.inj H
           go_wp2
           go_ret
           exact ⟨by first | rfl | (simp [errW_none, errW_some] <;> rfl) | (simp [*, errW_none, errW_some] <;> rfl), by repeat (first | (with_reducible first | exact HB.out | apply below_alloc | apply pw_below_drewN | apply below_drew1) | exact HB.out)⟩

def utf_Next.l0 : Nat → ByteArray → Int → Int → Int → Int → Option (Int × Int × Bool)
 | 0, _, _, _, _, _ => none
 | k + 1, x0, x5, x6, x7, x8 => if x8 < x7 then (if x8 < (x0.size : Int) then (if 0 ≤ x8 then (if (bt x0 x8) ≥ x5 then (if (bt x0 x8) ≤ x6 then (utf_Next.l0 k x0 128 191 x7 (wrap64 (x8 + 1))) else (if x8 = x7 then (if x8 ≤ (x0.size : Int) then ((utf8_DecodeRuneInString.f (x0.extract 0 (x8 : Int).toNat)).bind fun bt548 => (some (bt548.1, x8, true))) else (none)) else (some (65533, x8, false)))) else (if x8 = x7 then (if x8 ≤ (x0.size : Int) then ((utf8_DecodeRuneInString.f (x0.extract 0 (x8 : Int).toNat)).bind fun bt550 => (some (bt550.1, x8, true))) else (none)) else (some (65533, x8, false)))) else (none)) else (if x8 = x7 then (if 0 ≤ x8 then (if x8 ≤ (x0.size : Int) then ((utf8_DecodeRuneInString.f (x0.extract 0 (x8 : Int).toNat)).bind fun bt552 => (some (bt552.1, x8, true))) else (none)) else (none)) else (some (65533, x8, false)))) else (if x8 = x7 then (if 0 ≤ x8 then (if x8 ≤ (x0.size : Int) then ((utf8_DecodeRuneInString.f (x0.extract 0 (x8 : Int).toNat)).bind fun bt554 => (some (bt554.1, x8, true))) else (none)) else (none)) else (some (65533, x8, false)))
def utf_Next.f (k : Nat) (a0 : ByteArray) : Option (Int × Int × Bool) := if a0.toList = ([] : List UInt8) then (some (0, 0, false)) else (if 0 < (a0.size : Int) then ((utf_room.f k (bt a0 0)).bind fun bt545 => (utf_Next.l0 k a0 bt545.1 bt545.2.1 bt545.2.2 1)) else (none))
set_option maxHeartbeats 8000000 in
set_option maxRecDepth 100000 in
theorem utf_Next.calls (k : Nat) (a0 : ByteArray) (r1 : Int) (r2 : Int) (r3 : Bool) (w : World) (h : utf_Next.f k a0 = some (r1, r2, r3)) (hG : WG w) :
  Calls Tryd.prog 65 #[.string a0] w fun e w' => e = .returned (.tuple #[.int .i32 r1, .int .i64 r2, .bool r3]) ∧ Below w.heap.size w w' := by
 have HG := Aside0.mk hG
 clear hG
 have HB := Aside0.mk (Below.refl w.heap.size w)
 have H : (if a0.toList = ([] : List UInt8) then (some (0, 0, false)) else (if 0 < (a0.size : Int) then ((utf_room.f k (bt a0 0)).bind fun bt545 => (utf_Next.l0 k a0 bt545.1 bt545.2.1 bt545.2.2 1)) else (none))) = some (r1, r2, r3) := h
 clear h
 by_cases c2 : a0.toList = ([] : List UInt8)
 ·rw [if_pos c2] at H
  have c2b0 : (a0.toList == ([] : List UInt8)) = true := beq_iff_eq.mpr c2
  have c2b1 : (a0.toList != ([] : List UInt8)) = false := bne_eq_false_iff_eq.mpr c2
  clear c2
  simp only [Option.some.injEq, Prod.mk.injEq] at H
  obtain ⟨rfl, rfl, rfl⟩ := H
  go_enter Tryd.func65, Tryd.ntmps65
  go_wp2
  go_ret3
  exact ⟨by first | rfl | (simp [errW_none, errW_some] <;> rfl) | (simp [*, errW_none, errW_some] <;> rfl), by repeat (first | (with_reducible first | exact HB.out | apply below_alloc | apply pw_below_drewN | apply below_drew1) | exact HB.out)⟩
 ·rw [if_neg c2] at H
  have c2b0 : (a0.toList == ([] : List UInt8)) = false := beq_eq_false_iff_ne.mpr c2
  have c2b1 : (a0.toList != ([] : List UInt8)) = true := bne_iff_ne.mpr c2
  by_cases c3 : 0 < (a0.size : Int)
  ·rw [if_pos c3] at H
   have c3b0 : decide (0 < (a0.size : Int)) = true := decide_eq_true c3
   have c3b1 : decide (0 < a0.size) = true := decide_eq_true (by omega)
   clear c3
   replace H := Option.bind_eq_some_iff.mp H
   obtain ⟨⟨t545, t546, t547⟩, A50, H⟩ := H
   replace H : (utf_Next.l0 k a0 t545 t546 t547 1) = some (r1, r2, r3) := H
   have A5 := Aside0.mk A50
   clear A50
   have H' := Aside0.mk H
   clear H
   have p4 : 0 ≤ (0 : Int) := (by omega)
   have q4 : 0 < a0.size := (by have : (0 : Int) < (a0.size : Int) := of_decide_eq_true (by first | (with_reducible assumption) | assumption); omega)
   have hx4 : ∀ h : 0 < a0.size, ((a0[0]'h).toNat : Int) = bt a0 0 := bt_at a0 0
   clear p4
   have qi4 : (0 < (a0.size : Int)) = True := eq_true (of_decide_eq_true (by first | (with_reducible assumption) | assumption))
   replace q4 := eq_true q4
   go_enter Tryd.func65, Tryd.ntmps65
   go_wp2_with (first | ((with_reducible refine gate_callee (f := 77) rfl ?_); refine goesL_ (some 16) rfl rfl Tryd.func77 (by kernel_rfl) rfl #[.int .u8 (bt a0 0)] rfl (by (try simp only [List.map_toArray, List.map_cons, List.map_nil]); first | done | rfl | (simp only [List.length_drop, List.length_take]; rfl)) ?_; (with_reducible refine (utf_room.calls k (bt a0 0) t545 t546 t547 _ A5.out).mono ?_); rintro e w' ⟨rfl, ⟨nd, rfl⟩⟩; refine ⟨_, rfl, ?_⟩))
   go_loopg [5, 6, 8] k (fun kq v5 v6 v8 w' => ∃ (x5_1 : Int) (x6_1 : Int) (x8_1 : Int), v5 = .int .u8 x5_1 ∧ v6 = .int .u8 x6_1 ∧ v8 = .int .i64 x8_1 ∧ Aside0 (utf_Next.l0 kq a0 x5_1 x6_1 t547 x8_1 = some (r1, r2, r3)) ∧ Aside0 (kq ≤ k) ∧ Aside0 (Below w.heap.size w w'))
   case atStart => exact ⟨(t545), (t546), (1), (by first | rfl | (simp; done) | (simp [*]; done)), (by first | rfl | (simp; done) | (simp [*]; done)), (by first | rfl | (simp; done) | (simp [*]; done)), H', ⟨Nat.le_refl _⟩, ⟨by repeat (first | (with_reducible first | exact HB.out | apply below_alloc | apply pw_below_drewN | apply below_drew1) | exact HB.out)⟩⟩
   case round =>
    clear H'
    try clear c2
    try clear c2b0
    try clear c2b1
    try clear p2
    try clear c3
    try clear c3b0
    try clear c3b1
    try clear p4
    try clear q4
    try clear hx4
    try clear qi4
    try clear p4
    try clear q4
    obtain ⟨x5_1, x6_1, x8_1, rfl, rfl, rfl, HA, HK1, HB⟩ := hrel
    cases gk with
    | zero => exact absurd HA.out (by simp [utf_Next.l0])
    | succ k1 =>
     have H := HA.out
     clear HA
     simp only [utf_Next.l0] at H
     by_cases c6 : x8_1 < t547
     ·rw [if_pos c6] at H
      have c6b0 : decide (x8_1 < t547) = true := decide_eq_true c6
      clear c6
      by_cases c7 : x8_1 < (a0.size : Int)
      ·rw [if_pos c7] at H
       have c7b0 : decide (x8_1 < (a0.size : Int)) = true := decide_eq_true c7
       clear c7
       by_cases c8 : 0 ≤ x8_1
       ·rw [if_pos c8] at H
        have c8b0 : decide (0 ≤ x8_1) = true := decide_eq_true c8
        clear c8
        by_cases c10 : (bt a0 x8_1) ≥ x5_1
        ·rw [if_pos c10] at H
         have c10b0 : decide (x5_1 ≤ (bt a0 x8_1)) = true := decide_eq_true c10
         clear c10
         by_cases c12 : (bt a0 x8_1) ≤ x6_1
         ·rw [if_pos c12] at H
          have c12b0 : decide ((bt a0 x8_1) ≤ x6_1) = true := decide_eq_true c12
          clear c12
          have H' := Aside0.mk H
          clear H
          have p9 : 0 ≤ (x8_1 : Int) := of_decide_eq_true (by first | (with_reducible assumption) | assumption)
          have q9 : x8_1 < (a0.size : Int) := of_decide_eq_true (by first | (with_reducible assumption) | assumption)
          have hx9 := bt_at a0 x8_1
          replace p9 := eq_true p9
          replace q9 := eq_true q9
          have p11 : 0 ≤ (x8_1 : Int) := of_decide_eq_true (by first | (with_reducible assumption) | assumption)
          have q11 : x8_1 < (a0.size : Int) := of_decide_eq_true (by first | (with_reducible assumption) | assumption)
          have hx11 := bt_at a0 x8_1
          replace p11 := eq_true p11
          replace q11 := eq_true q11
          go_wp2
          go_roundg k1
          case measure => have := HK1.out; omega
          case rel => exact ⟨(128), (191), (wrap64 (x8_1 + 1)), (by first | rfl | (simp; done) | (simp [*]; done)), (by first | rfl | (simp; done) | (simp [*]; done)), (by first | rfl | (simp; done) | (simp [*]; done)), H', ⟨by have := HK1.out; omega⟩, ⟨by repeat (first | (with_reducible first | exact HB.out | apply below_alloc | apply pw_below_drewN | apply below_drew1) | exact HB.out)⟩⟩
         ·rw [if_neg c12] at H
          have c12b0 : decide ((bt a0 x8_1) ≤ x6_1) = false := decide_eq_false c12
          clear c12
          by_cases c13 : x8_1 = t547
          ·rw [if_pos c13] at H
           have c13b0 : (x8_1 == t547) = true := beq_iff_eq.mpr c13
           have c13b1 : (x8_1 != t547) = false := bne_eq_false_iff_eq.mpr c13
           clear c13
           have c14b0 := eq_true (of_decide_eq_true (by first | (with_reducible assumption) | assumption) : 0 ≤ x8_1)
           by_cases c15 : x8_1 ≤ (a0.size : Int)
           ·rw [if_pos c15] at H
            have c15b0 := eq_true c15
            have c15b1 : decide (x8_1 ≤ (a0.size : Int)) = true := decide_eq_true c15
            clear c15
            replace H := Option.bind_eq_some_iff.mp H
            obtain ⟨⟨t548, t549⟩, A160, H⟩ := H
            replace H : (some (t548, x8_1, true)) = some (r1, r2, r3) := H
            have A16 := Aside0.mk A160
            clear A160
            simp only [Option.some.injEq, Prod.mk.injEq] at H
            obtain ⟨rfl, rfl, rfl⟩ := H
            have p9 : 0 ≤ (x8_1 : Int) := of_decide_eq_true (by first | (with_reducible assumption) | assumption)
            have q9 : x8_1 < (a0.size : Int) := of_decide_eq_true (by first | (with_reducible assumption) | assumption)
            have hx9 := bt_at a0 x8_1
            replace p9 := eq_true p9
            replace q9 := eq_true q9
            have p11 : 0 ≤ (x8_1 : Int) := of_decide_eq_true (by first | (with_reducible assumption) | assumption)
            have q11 : x8_1 < (a0.size : Int) := of_decide_eq_true (by first | (with_reducible assumption) | assumption)
            have hx11 := bt_at a0 x8_1
            replace p11 := eq_true p11
            replace q11 := eq_true q11
            go_wp2_with (first | ((with_reducible refine gate_callee (f := 78) rfl ?_); refine goesL_ (some 53) rfl rfl Tryd.func78 (by kernel_rfl) rfl #[.string (a0.extract 0 (x8_1 : Int).toNat)] rfl (by (try simp only [List.map_toArray, List.map_cons, List.map_nil]); first | done | rfl | (simp only [List.length_drop, List.length_take]; rfl)) ?_; (with_reducible refine (utf8_DecodeRuneInString.calls (a0.extract 0 (x8_1 : Int).toNat) t548 t549 _ A16.out (WG.keep HG.out (by repeat (first | (with_reducible first | exact HB.out | apply below_alloc | apply pw_below_drewN | apply below_drew1) | exact HB.out)))).mono ?_); rintro e w17 ⟨rfl, hb⟩; refine ⟨_, rfl, ?_⟩; have n0_ := Aside0.mk (below_step (by repeat (first | (with_reducible first | exact HB.out | apply below_alloc | apply pw_below_drewN | apply below_drew1) | exact HB.out)) hb); clear HB; have HB := n0_; clear n0_; (try clear hb); (try clear hb2); (try clear hk); (try clear hi)))
            go_ret3
            exact ⟨by first | rfl | (simp [errW_none, errW_some] <;> rfl) | (simp [*, errW_none, errW_some] <;> rfl), by repeat (first | (with_reducible first | exact HB.out | apply below_alloc | apply pw_below_drewN | apply below_drew1) | exact HB.out)⟩
           ·rw [if_neg c15] at H
            exact absurd H (by simp)
          ·rw [if_neg c13] at H
           have c13b0 : (x8_1 == t547) = false := beq_eq_false_iff_ne.mpr c13
           have c13b1 : (x8_1 != t547) = true := bne_iff_ne.mpr c13
           simp only [Option.some.injEq, Prod.mk.injEq] at H
           obtain ⟨rfl, rfl, rfl⟩ := H
           have p9 : 0 ≤ (x8_1 : Int) := of_decide_eq_true (by first | (with_reducible assumption) | assumption)
           have q9 : x8_1 < (a0.size : Int) := of_decide_eq_true (by first | (with_reducible assumption) | assumption)
           have hx9 := bt_at a0 x8_1
           replace p9 := eq_true p9
           replace q9 := eq_true q9
           have p11 : 0 ≤ (x8_1 : Int) := of_decide_eq_true (by first | (with_reducible assumption) | assumption)
           have q11 : x8_1 < (a0.size : Int) := of_decide_eq_true (by first | (with_reducible assumption) | assumption)
           have hx11 := bt_at a0 x8_1
           replace p11 := eq_true p11
           replace q11 := eq_true q11
           go_wp2
           go_ret3
           exact ⟨by first | rfl | (simp [errW_none, errW_some] <;> rfl) | (simp [*, errW_none, errW_some] <;> rfl), by repeat (first | (with_reducible first | exact HB.out | apply below_alloc | apply pw_below_drewN | apply below_drew1) | exact HB.out)⟩
        ·rw [if_neg c10] at H
         have c10b0 : decide (x5_1 ≤ (bt a0 x8_1)) = false := decide_eq_false c10
         clear c10
         by_cases c18 : x8_1 = t547
         ·rw [if_pos c18] at H
          have c18b0 : (x8_1 == t547) = true := beq_iff_eq.mpr c18
          have c18b1 : (x8_1 != t547) = false := bne_eq_false_iff_eq.mpr c18
          clear c18
          have c19b0 := eq_true (of_decide_eq_true (by first | (with_reducible assumption) | assumption) : 0 ≤ x8_1)
          by_cases c20 : x8_1 ≤ (a0.size : Int)
          ·rw [if_pos c20] at H
           have c20b0 := eq_true c20
           have c20b1 : decide (x8_1 ≤ (a0.size : Int)) = true := decide_eq_true c20
           clear c20
           replace H := Option.bind_eq_some_iff.mp H
           obtain ⟨⟨t550, t551⟩, A210, H⟩ := H
           replace H : (some (t550, x8_1, true)) = some (r1, r2, r3) := H
           have A21 := Aside0.mk A210
           clear A210
           simp only [Option.some.injEq, Prod.mk.injEq] at H
           obtain ⟨rfl, rfl, rfl⟩ := H
           have p9 : 0 ≤ (x8_1 : Int) := of_decide_eq_true (by first | (with_reducible assumption) | assumption)
           have q9 : x8_1 < (a0.size : Int) := of_decide_eq_true (by first | (with_reducible assumption) | assumption)
           have hx9 := bt_at a0 x8_1
           replace p9 := eq_true p9
           replace q9 := eq_true q9
           go_wp2_with (first | ((with_reducible refine gate_callee (f := 78) rfl ?_); refine goesL_ (some 53) rfl rfl Tryd.func78 (by kernel_rfl) rfl #[.string (a0.extract 0 (x8_1 : Int).toNat)] rfl (by (try simp only [List.map_toArray, List.map_cons, List.map_nil]); first | done | rfl | (simp only [List.length_drop, List.length_take]; rfl)) ?_; (with_reducible refine (utf8_DecodeRuneInString.calls (a0.extract 0 (x8_1 : Int).toNat) t550 t551 _ A21.out (WG.keep HG.out (by repeat (first | (with_reducible first | exact HB.out | apply below_alloc | apply pw_below_drewN | apply below_drew1) | exact HB.out)))).mono ?_); rintro e w22 ⟨rfl, hb⟩; refine ⟨_, rfl, ?_⟩; have n0_ := Aside0.mk (below_step (by repeat (first | (with_reducible first | exact HB.out | apply below_alloc | apply pw_below_drewN | apply below_drew1) | exact HB.out)) hb); clear HB; have HB := n0_; clear n0_; (try clear hb); (try clear hb2); (try clear hk); (try clear hi)))
           go_ret3
           exact ⟨by first | rfl | (simp [errW_none, errW_some] <;> rfl) | (simp [*, errW_none, errW_some] <;> rfl), by repeat (first | (with_reducible first | exact HB.out | apply below_alloc | apply pw_below_drewN | apply below_drew1) | exact HB.out)⟩
          ·rw [if_neg c20] at H
           exact absurd H (by simp)
         ·rw [if_neg c18] at H
          have c18b0 : (x8_1 == t547) = false := beq_eq_false_iff_ne.mpr c18
          have c18b1 : (x8_1 != t547) = true := bne_iff_ne.mpr c18
          simp only [Option.some.injEq, Prod.mk.injEq] at H
          obtain ⟨rfl, rfl, rfl⟩ := H
          have p9 : 0 ≤ (x8_1 : Int) := of_decide_eq_true (by first | (with_reducible assumption) | assumption)
          have q9 : x8_1 < (a0.size : Int) := of_decide_eq_true (by first | (with_reducible assumption) | assumption)
          have hx9 := bt_at a0 x8_1
          replace p9 := eq_true p9
          replace q9 := eq_true q9
          go_wp2
          go_ret3
          exact ⟨by first | rfl | (simp [errW_none, errW_some] <;> rfl) | (simp [*, errW_none, errW_some] <;> rfl), by repeat (first | (with_reducible first | exact HB.out | apply below_alloc | apply pw_below_drewN | apply below_drew1) | exact HB.out)⟩
       ·rw [if_neg c8] at H
        exact absurd H (by simp)
      ·rw [if_neg c7] at H
       have c7b0 : decide (x8_1 < (a0.size : Int)) = false := decide_eq_false c7
       clear c7
       by_cases c23 : x8_1 = t547
       ·rw [if_pos c23] at H
        have c23b0 : (x8_1 == t547) = true := beq_iff_eq.mpr c23
        have c23b1 : (x8_1 != t547) = false := bne_eq_false_iff_eq.mpr c23
        clear c23
        by_cases c24 : 0 ≤ x8_1
        ·rw [if_pos c24] at H
         have c24b0 := eq_true c24
         have c24b1 : decide (0 ≤ x8_1) = true := decide_eq_true c24
         clear c24
         by_cases c25 : x8_1 ≤ (a0.size : Int)
         ·rw [if_pos c25] at H
          have c25b0 := eq_true c25
          have c25b1 : decide (x8_1 ≤ (a0.size : Int)) = true := decide_eq_true c25
          clear c25
          replace H := Option.bind_eq_some_iff.mp H
          obtain ⟨⟨t552, t553⟩, A260, H⟩ := H
          replace H : (some (t552, x8_1, true)) = some (r1, r2, r3) := H
          have A26 := Aside0.mk A260
          clear A260
          simp only [Option.some.injEq, Prod.mk.injEq] at H
          obtain ⟨rfl, rfl, rfl⟩ := H
          go_wp2_with (first | ((with_reducible refine gate_callee (f := 78) rfl ?_); refine goesL_ (some 53) rfl rfl Tryd.func78 (by kernel_rfl) rfl #[.string (a0.extract 0 (x8_1 : Int).toNat)] rfl (by (try simp only [List.map_toArray, List.map_cons, List.map_nil]); first | done | rfl | (simp only [List.length_drop, List.length_take]; rfl)) ?_; (with_reducible refine (utf8_DecodeRuneInString.calls (a0.extract 0 (x8_1 : Int).toNat) t552 t553 _ A26.out (WG.keep HG.out (by repeat (first | (with_reducible first | exact HB.out | apply below_alloc | apply pw_below_drewN | apply below_drew1) | exact HB.out)))).mono ?_); rintro e w27 ⟨rfl, hb⟩; refine ⟨_, rfl, ?_⟩; have n0_ := Aside0.mk (below_step (by repeat (first | (with_reducible first | exact HB.out | apply below_alloc | apply pw_below_drewN | apply below_drew1) | exact HB.out)) hb); clear HB; have HB := n0_; clear n0_; (try clear hb); (try clear hb2); (try clear hk); (try clear hi)))
          go_ret3
          exact ⟨by first | rfl | (simp [errW_none, errW_some] <;> rfl) | (simp [*, errW_none, errW_some] <;> rfl), by repeat (first | (with_reducible first | exact HB.out | apply below_alloc | apply pw_below_drewN | apply below_drew1) | exact HB.out)⟩
         ·rw [if_neg c25] at H
          exact absurd H (by simp)
        ·rw [if_neg c24] at H
         exact absurd H (by simp)
       ·rw [if_neg c23] at H
        have c23b0 : (x8_1 == t547) = false := beq_eq_false_iff_ne.mpr c23
        have c23b1 : (x8_1 != t547) = true := bne_iff_ne.mpr c23
        simp only [Option.some.injEq, Prod.mk.injEq] at H
        obtain ⟨rfl, rfl, rfl⟩ := H
        go_wp2
        go_ret3
        exact ⟨by first | rfl | (simp [errW_none, errW_some] <;> rfl) | (simp [*, errW_none, errW_some] <;> rfl), by repeat (first | (with_reducible first | exact HB.out | apply below_alloc | apply pw_below_drewN | apply below_drew1) | exact HB.out)⟩
     ·rw [if_neg c6] at H
      have c6b0 : decide (x8_1 < t547) = false := decide_eq_false c6
      clear c6
      by_cases c28 : x8_1 = t547
      ·rw [if_pos c28] at H
       have c28b0 : (x8_1 == t547) = true := beq_iff_eq.mpr c28
       have c28b1 : (x8_1 != t547) = false := bne_eq_false_iff_eq.mpr c28
       clear c28
       by_cases c29 : 0 ≤ x8_1
       ·rw [if_pos c29] at H
        have c29b0 := eq_true c29
        have c29b1 : decide (0 ≤ x8_1) = true := decide_eq_true c29
        clear c29
        by_cases c30 : x8_1 ≤ (a0.size : Int)
        ·rw [if_pos c30] at H
         have c30b0 := eq_true c30
         have c30b1 : decide (x8_1 ≤ (a0.size : Int)) = true := decide_eq_true c30
         clear c30
         replace H := Option.bind_eq_some_iff.mp H
         obtain ⟨⟨t554, t555⟩, A310, H⟩ := H
         replace H : (some (t554, x8_1, true)) = some (r1, r2, r3) := H
         have A31 := Aside0.mk A310
         clear A310
         simp only [Option.some.injEq, Prod.mk.injEq] at H
         obtain ⟨rfl, rfl, rfl⟩ := H
         go_wp2_with (first | ((with_reducible refine gate_callee (f := 78) rfl ?_); refine goesL_ (some 53) rfl rfl Tryd.func78 (by kernel_rfl) rfl #[.string (a0.extract 0 (x8_1 : Int).toNat)] rfl (by (try simp only [List.map_toArray, List.map_cons, List.map_nil]); first | done | rfl | (simp only [List.length_drop, List.length_take]; rfl)) ?_; (with_reducible refine (utf8_DecodeRuneInString.calls (a0.extract 0 (x8_1 : Int).toNat) t554 t555 _ A31.out (WG.keep HG.out (by repeat (first | (with_reducible first | exact HB.out | apply below_alloc | apply pw_below_drewN | apply below_drew1) | exact HB.out)))).mono ?_); rintro e w32 ⟨rfl, hb⟩; refine ⟨_, rfl, ?_⟩; have n0_ := Aside0.mk (below_step (by repeat (first | (with_reducible first | exact HB.out | apply below_alloc | apply pw_below_drewN | apply below_drew1) | exact HB.out)) hb); clear HB; have HB := n0_; clear n0_; (try clear hb); (try clear hb2); (try clear hk); (try clear hi)))
         go_ret3
         exact ⟨by first | rfl | (simp [errW_none, errW_some] <;> rfl) | (simp [*, errW_none, errW_some] <;> rfl), by repeat (first | (with_reducible first | exact HB.out | apply below_alloc | apply pw_below_drewN | apply below_drew1) | exact HB.out)⟩
        ·rw [if_neg c30] at H
         exact absurd H (by simp)
       ·rw [if_neg c29] at H
        exact absurd H (by simp)
      ·rw [if_neg c28] at H
       have c28b0 : (x8_1 == t547) = false := beq_eq_false_iff_ne.mpr c28
       have c28b1 : (x8_1 != t547) = true := bne_iff_ne.mpr c28
       simp only [Option.some.injEq, Prod.mk.injEq] at H
       obtain ⟨rfl, rfl, rfl⟩ := H
       go_wp2
       go_ret3
       exact ⟨by first | rfl | (simp [errW_none, errW_some] <;> rfl) | (simp [*, errW_none, errW_some] <;> rfl), by repeat (first | (with_reducible first | exact HB.out | apply below_alloc | apply pw_below_drewN | apply below_drew1) | exact HB.out)⟩
  ·rw [if_neg c3] at H
   exact absurd H (by simp)

end Go.Proofs.YtncbbgmhmofhnaaDoor.Pr
end

section
namespace Go.Proofs.YtncbbgmhmofhnaaDoor.Pr
open Go.RowKit Go.Proofs Go.Shelf
set_option linter.unusedVariables false
set_option linter.unusedSimpArgs false

/-- All but the blocks among T lies as it lay. -/
structure Turned (T : Nat → Prop) (W W' : World) : Prop where
  os : W'.os = W.os
  tape : W'.tape = W.tape
  output : W'.output = W.output
  size : W.heap.size ≤ W'.heap.size
  same : ∀ k, k < W.heap.size → ¬ T k → W'.heap[k]? = W.heap[k]?
theorem Turned.refl (T : Nat → Prop) (W : World) : Turned T W W := ⟨rfl, rfl, rfl, Nat.le_refl _, fun _ _ _ => rfl⟩
theorem Turned.trans {T : Nat → Prop} {A B C : World} (h : Turned T A B) (k : Turned T B C) : Turned T A C :=
  ⟨k.os.trans h.os, k.tape.trans h.tape, k.output.trans h.output, Nat.le_trans h.size k.size, fun i hi ht => (k.same i (Nat.lt_of_lt_of_le hi h.size) ht).trans (h.same i hi ht)⟩
theorem Turned.mono {T T' : Nat → Prop} {A B : World} (h : Turned T A B) (ht : ∀ k, k < A.heap.size → T k → T' k) : Turned T' A B :=
  ⟨h.os, h.tape, h.output, h.size, fun k hk hn => h.same k hk fun h' => hn (ht k hk h')⟩
theorem Turned.of_below (T : Nat → Prop) {A B : World} (h : Below A.heap.size A B) : Turned T A B := ⟨h.os, h.tape, h.output, h.size, fun k hk _ => h.block k hk⟩
theorem Turned.alloc (T : Nat → Prop) (W : World) (o : Obj) : Turned T W (W.alloc o) := Turned.of_below T ((Below.refl _ _).alloc (Nat.le_refl _) o)
theorem Turned.of_grown {T : Nat → Prop} {A B : World} {row : Option Nat} (h : A.grownBy B row) (ht : ∀ k, row = some k → T k) : Turned T A B :=
  ⟨h.os, h.tape, h.output, h.size, fun k hk hn => h.block k hk fun e => hn (ht k e.symm)⟩
theorem Turned.putObj {T : Nat → Prop} (W : World) {l : Nat} (o : Obj) (hl : T l) : Turned T W (W.putObj l o) := Turned.of_grown (grownBy_putObj' W l o) fun k e => by cases e; exact hl
theorem Turned.setCell {T : Nat → Prop} (W : World) (p : Addr) (v : Value) (hp : T p.block) : Turned T W (W.setCell p v) :=
  ⟨rfl, rfl, rfl, (KeepsWalks.setCell W _ v).size, fun k _ hk => Below.heap_setCell _ _ _ k (fun e => hk (by rw [e]; exact hp))⟩
theorem Turned.drew (T : Nat → Prop) (W : World) : Turned T W W.drew := ⟨rfl, rfl, rfl, Nat.le_refl _, fun _ _ _ => rfl⟩
theorem Turned.cell {T : Nat → Prop} {A B : World} (h : Turned T A B) {a : Addr} {v : Value} (hc : A.cell? a = some v) (hn : ¬ T a.block) : B.cell? a = some v :=
  (World.cell?_of_block (h.same _ (World.block_lt_of_cell? A a hc) hn)).trans hc
theorem Turned.frozen {T : Nat → Prop} {A B : World} (h : Turned T A B) {a : Addr} {v : Value} (hc : A.cell? a = some v) (hn : ¬ T a.block) : B.frozen? a = A.frozen? a :=
  World.frozen?_of_block (h.same _ (World.block_lt_of_cell? A a hc) hn)
theorem Turned.below {T : Nat → Prop} {B : Nat} {w A C : World} (h : Turned T A C) (hb : Below B w A) (hB : B ≤ A.heap.size) (ht : ∀ k, k < B → ¬ T k) : Below B w C :=
  hb.trans ⟨h.os, h.tape, h.output, h.size, fun k hk => h.same k (Nat.lt_of_lt_of_le hk hB) (ht k hk)⟩

/-- What a round says: of the blocks that the iterator cares for (C) it turned those alone that the loop owns (O); what the loop owns now (O') it owned, or it is new. -/
structure Rnd (C O O' : Nat → Prop) (W W' : World) : Prop where
  size : W.heap.size ≤ W'.heap.size
  new : ∀ k, O' k → O k ∨ W.heap.size ≤ k
  lt : ∀ k, O' k → k < W'.heap.size
  same : ∀ k, k < W.heap.size → C k → ¬ O k → W'.heap[k]? = W.heap[k]?
theorem Rnd.mono {C C' O O' : Nat → Prop} {A B : World} (h : Rnd C O O' A B) (hc : ∀ k, k < A.heap.size → C' k → C k) : Rnd C' O O' A B := ⟨h.size, h.new, h.lt, fun k hk h1 h2 => h.same k hk (hc k hk h1) h2⟩

/-- AN ITERATOR's CONTRACT: Q: the older blocks that it cares for; S: all that comes; Sp: what has come when a round said 'no more'. -/
def Gives {α : Type} (P : Program) (g : Nat) (lb : Array Value) (encs : α → Array Value) (Q : Nat → Prop) (H : World → Prop) (S Sp : List α → Prop) (N : Nat) (w : World) : Prop :=
  ∀ (l : Nat) (J Jx : List α → (Nat → Prop) → World → Prop) (W : World), Below w.heap.size w W → (∀ s O A, J s O A → H A) →
    (∀ s O A B, J s O A → Turned (fun k => (Q k ∨ W.heap.size ≤ k) ∧ ¬ O k) A B → J s O B) →
    (∀ s O A B, Jx s O A → Turned (fun k => (Q k ∨ W.heap.size ≤ k) ∧ ¬ O k) A B → Jx s O B) →
    (∀ pre x O W1, J pre O W1 → W.heap.size ≤ W1.heap.size → (∀ k, O k → W.heap.size ≤ k ∧ k < W1.heap.size) → pre.length < N → YieldAt Fence.wide 9 P l (encs x) W1 fun e W' => ∃ O', Rnd (fun k => Q k ∨ W.heap.size ≤ k) O O' W1 W' ∧
      ((e = .returned (.bool true) ∧ J (pre ++ [x]) O' W') ∨ (e = .returned (.bool false) ∧ Jx (pre ++ [x]) O' W'))) →
    J [] (fun _ => False) W →
    Calls P g (#[.func (.yield l) #[] #[]] ++ lb) W fun e W' => ∃ v O', e = .returned v ∧ (∀ k, O' k → W.heap.size ≤ k ∧ k < W'.heap.size) ∧ ((∃ xs, S xs ∧ J xs O' W') ∨ (∃ pre, Sp pre ∧ Jx pre O' W'))

/-- How the body of a round may be left. -/
def givesPost {α : Type} (C : Nat → Prop) (I : List α → (Nat → Prop) → World → Prop) (Ix : Code → List α → (Nat → Prop) → World → Prop) (xs : List α) (O : Nat → Prop) (W : World) : Exit → Act → World → Prop
  | .normal, _, W' => ∃ O', Rnd C O O' W W' ∧ I xs O' W'
  | .ret, _, W' => ∃ O', Rnd C O O' W W' ∧ Ix .ret xs O' W'
  | .exit id, _, W' => ∃ O', Rnd C O O' W W' ∧ Ix (.exit id) xs O' W'
  | .goto t, _, W' => ∃ O', Rnd C O O' W W' ∧ Ix (.goto t) xs O' W'
  | .panic _, _, _ => False
  | .outgrown, _, _ => False

/-- **THE LOOP 'for x := range seq { body }' over an iterator that has its contract.** -/
theorem wpIn_rangeFunc_gives {α : Type} {P : Program} {g : Operand} {ps : Array Tmp} {assign body : Code} {Q' : Exit → Act → World → Prop} {a : Act} {w : World} {n : Nat}
    {gf : Nat} {lb : Array Value} (hg : a.eval g = .func (.func gf) #[] lb) (eg : ∀ args w, (callFunc gf args).run P w = .ok (.enter gf args) w)
    {encs : α → Array Value} {Q : Nat → Prop} {H : World → Prop} {S Sp : List α → Prop} {N : Nat} {w0 : World} (hseq : Gives P gf lb encs Q H S Sp N w0) (hb0 : Below w0.heap.size w0 w) (hQ : ∀ k, Q k → k < w.heap.size) (hps : ∀ x, (encs x).size = ps.size)
    (I : List α → (Nat → Prop) → World → Prop) (Ix : Code → List α → (Nat → Prop) → World → Prop)
    (hH : ∀ s O A, I s O A → H A) (hI : ∀ s O A B, I s O A → Turned (fun k => (Q k ∨ w.heap.size ≤ k) ∧ ¬ O k) A B → I s O B) (hIx : ∀ c s O A B, Ix c s O A → Turned (fun k => (Q k ∨ w.heap.size ≤ k) ∧ ¬ O k) A B → Ix c s O B)
    (h0 : I [] (fun _ => False) w) (a₁ : α → Act)
    (hassign : ∀ (l : Nat) (x : α) (W : World) (K : Act → World → Prop), K (a₁ x) W →
      assign.wpIn (Fence.wide.inRound l) 9 P (Exit.then K (fun _ _ _ => False)) { tmps := (ps.zip (encs x)).foldl (fun t (p, v) => t.setIfInBounds p v) a.tmps, defers := [] } W)
    (hbody : ∀ (l : Nat) (pre : List α) (x : α) (O : Nat → Prop) (W : World), I pre O W → pre.length < N → (∀ k, O k → w.heap.size + 2 ≤ k ∧ k < W.heap.size) → w.heap.size + 2 ≤ W.heap.size →
      body.wpIn (Fence.wide.inRound l) 9 P (givesPost (fun k => Q k ∨ w.heap.size ≤ k) I Ix (pre ++ [x]) O W) (a₁ x) W)
    (hdone : ∀ (D : Nat) (xs : List α) (O : Nat → Prop) (W : World), w.heap.size ≤ D → ¬ O D → S xs → I xs O W → W.heap[D]? = some (.deferred (some [])) → Q' .normal { a with defers := { target := .collected D, args := #[] } :: a.defers } W)
    (hstop : ∀ (D : Nat) (c : Code) (pre : List α) (O : Nat → Prop) (W : World), w.heap.size ≤ D → ¬ O D → Sp pre → Ix c pre O W → W.heap[D]? = some (.deferred (some [])) → c.wpIn Fence.wide n P Q' { a with defers := { target := .collected D, args := #[] } :: a.defers } W) :
    (Code.rangeFunc g ps assign body).wpIn Fence.wide n P Q' a w := by
  refine wpIn_rangeFunc ?_
  intro fn hfn
  obtain ⟨rec, hrec⟩ : ∃ rec : LoopState → Option Code → Loop, rec = fun st pe => { state := st, pending := pe, fn, tmps := a.tmps, params := ps, assign, body, defers := w.heap.size } := ⟨_, rfl⟩
  obtain ⟨W1, hW1⟩ : ∃ W1, (w.alloc (.deferred (some []))).alloc (.loop (rec .ready none)) = W1 := ⟨_, rfl⟩
  have hs1 : W1.heap.size = w.heap.size + 2 := by rw [← hW1]; simp
  have hL1 : W1.heap[w.heap.size + 1]? = some (.loop (rec .ready none)) := by
    rw [← hW1]; have := World.alloc_heap_new (w.alloc (.deferred (some []))) (.loop (rec .ready none)); rwa [World.size_alloc] at this
  have hK1 : W1.heap[w.heap.size]? = some (.deferred (some [])) := by
    rw [← hW1]; exact (Below.heap_alloc _ _ _ (by simp)).trans (World.alloc_heap_new w _)
  have hT1 : ∀ T, Turned T w W1 := fun T => by rw [← hW1]; exact (Turned.alloc T _ _).trans (Turned.alloc T _ _)
  have hI1 : I [] (fun _ => False) W1 := hI _ _ _ _ h0 (hT1 _)
  have hb1 : Below w0.heap.size w0 W1 := (hT1 (fun k => False)).below hb0 hb0.size (fun _ _ h => h)
  refine ⟨w.heap.size + 1, [{ target := .collected w.heap.size, args := #[] }], W1, { target := .fn (.func gf) lb, args := #[.func (.yield (w.heap.size + 1)) #[] #[]] }, W1, gf,
    #[.func (.yield (w.heap.size + 1)) #[] #[]] ++ lb, W1, ?_, ?_, ?_, ?_, fun h => by simp [Fence.wide] at h, ?_⟩
  · rw [← hW1, hrec]; exact run_enterLoop_outer _ _ _ _ _
  · simp only [resolve, hg]
    simp [go_sem]
  · intro f' _; trivial
  · simp [invoke, go_sem, eg]
  · refine callsIn_wide.2 ((hseq (w.heap.size + 1)
      (fun pre O W => I pre O W ∧ w.heap.size + 2 ≤ W.heap.size ∧ W.heap[w.heap.size + 1]? = some (.loop (rec .ready none)) ∧ W.heap[w.heap.size]? = some (.deferred (some [])))
      (fun pre O W => ∃ c, Ix c pre O W ∧ w.heap.size + 2 ≤ W.heap.size ∧ W.heap[w.heap.size + 1]? = some (.loop (rec .done (some c))) ∧ W.heap[w.heap.size]? = some (.deferred (some [])))
      W1 hb1 (fun s O A h => hH s O A h.1) ?_ ?_ ?_ ⟨hI1, by omega, hL1, hK1⟩).mono ?_)
    · rintro s O A B ⟨hi, hz, hl, hk⟩ ht
      rw [hs1] at ht
      have hn1 : ¬ ((Q (w.heap.size + 1) ∨ w.heap.size + 2 ≤ w.heap.size + 1) ∧ ¬ O (w.heap.size + 1)) := fun h => by rcases h.1 with h | h; have := hQ _ h; omega; omega
      have hn0 : ¬ ((Q w.heap.size ∨ w.heap.size + 2 ≤ w.heap.size) ∧ ¬ O w.heap.size) := fun h => by rcases h.1 with h | h; have := hQ _ h; omega; omega
      exact ⟨hI _ _ _ _ hi (ht.mono fun k _ h => ⟨h.1.imp id (fun h => by omega), h.2⟩), Nat.le_trans hz ht.size, (ht.same _ (by omega) hn1).trans hl, (ht.same _ (by omega) hn0).trans hk⟩
    · rintro s O A B ⟨c, hi, hz, hl, hk⟩ ht
      rw [hs1] at ht
      have hn1 : ¬ ((Q (w.heap.size + 1) ∨ w.heap.size + 2 ≤ w.heap.size + 1) ∧ ¬ O (w.heap.size + 1)) := fun h => by rcases h.1 with h | h; have := hQ _ h; omega; omega
      have hn0 : ¬ ((Q w.heap.size ∨ w.heap.size + 2 ≤ w.heap.size) ∧ ¬ O w.heap.size) := fun h => by rcases h.1 with h | h; have := hQ _ h; omega; omega
      exact ⟨c, hIx _ _ _ _ _ hi (ht.mono fun k _ h => ⟨h.1.imp id (fun h => by omega), h.2⟩), Nat.le_trans hz ht.size, (ht.same _ (by omega) hn1).trans hl, (ht.same _ (by omega) hn0).trans hk⟩
    · -- one round
      rintro pre x O W ⟨hi, hz, hl, hk⟩ hzW hO hlen
      rw [hs1] at hO
      have hlt : w.heap.size + 1 < W.heap.size := by omega
      have hy := run_yield (P := P) (args := encs x) hl (by rw [hrec]; exact hps x)
      rw [hrec] at hy
      refine ⟨fn, _, assign, body, hy, roundIn_of_wpIn hfn (hassign _ x W _ ⟨_, run_beginRound hl (by rw [hrec]), ?_⟩)⟩
      have hO1 : ¬ O (w.heap.size + 1) := fun h => by have := (hO _ h).1; omega
      have hO0 : ¬ O w.heap.size := fun h => by have := (hO _ h).1; omega
      have hl2 : (W.putObj (w.heap.size + 1) (.loop { rec .ready none with state := .busy })).heap[w.heap.size + 1]? = some (.loop { rec .ready none with state := .busy }) := World.putObj_heap_same hlt
      have hk2 : (W.putObj (w.heap.size + 1) (.loop { rec .ready none with state := .busy })).heap[w.heap.size]? = some (.deferred (some [])) := (World.putObj_heap_other (by omega)).trans hk
      have hi2 : I pre O (W.putObj (w.heap.size + 1) (.loop { rec .ready none with state := .busy })) := hI _ _ _ _ hi (Turned.putObj W _ ⟨.inr (by omega), hO1⟩)
      refine wpIn_mono (hbody _ pre x O _ hi2 hlen (fun k h => ⟨(hO k h).1, by simpa using (hO k h).2⟩) (by simpa using hz)) ?_
      have fin : ∀ (jump : Option Code) (O' : Nat → Prop) (W3 : World), Rnd (fun k => Q k ∨ w.heap.size ≤ k) O O' (W.putObj (w.heap.size + 1) (.loop { rec .ready none with state := .busy })) W3 →
          (Instr.endRound (w.heap.size + 1) jump).run P W3 = .ok (.bool jump.isNone) (W3.putObj (w.heap.size + 1) (.loop (rec (if jump.isNone then .ready else .done) jump))) ∧
          (W3.putObj (w.heap.size + 1) (.loop (rec (if jump.isNone then .ready else .done) jump))).heap[w.heap.size + 1]? = some (.loop (rec (if jump.isNone then .ready else .done) jump)) ∧
          (W3.putObj (w.heap.size + 1) (.loop (rec (if jump.isNone then .ready else .done) jump))).heap[w.heap.size]? = some (.deferred (some [])) ∧
          w.heap.size + 2 ≤ W3.heap.size ∧ ¬ O' (w.heap.size + 1) ∧
          Rnd (fun k => Q k ∨ W1.heap.size ≤ k) O O' W (W3.putObj (w.heap.size + 1) (.loop (rec (if jump.isNone then .ready else .done) jump))) := fun jump O' W3 hr => by
        have hsz := hr.size
        rw [World.putObj_size] at hsz
        have hl3 := (hr.same (w.heap.size + 1) (by simpa using hlt) (.inr (by omega)) hO1).trans hl2
        have hk3 := (hr.same w.heap.size (by simp; omega) (.inr (by omega)) hO0).trans hk2
        have := run_endRound (P := P) jump hl3
        rw [hrec] at this ⊢
        refine ⟨this, World.putObj_heap_same (by omega), (World.putObj_heap_other (by omega)).trans hk3, by omega, fun h => ?_, ⟨by simpa using hsz, fun k h => by have := hr.new k h; rwa [World.putObj_size] at this, fun k h => by simpa using hr.lt k h, fun k hkk hc hn => ?_⟩⟩
        · rcases hr.new _ h with h | h
          · exact hO1 h
          · rw [World.putObj_size] at h; omega
        · have hne : k ≠ w.heap.size + 1 := fun e => by subst e; rcases hc with h | h; have := hQ _ h; omega; omega
          have h3 := hr.same k (by simpa using hkk) (hc.imp id fun h => by omega) hn
          rw [World.putObj_heap_other hne, h3, World.putObj_heap_other hne]
      rintro e a3 W3 hp
      cases e with
      | normal =>
        obtain ⟨O', hr, hi3⟩ := hp
        obtain ⟨hrun, hl4, hk4, hz4, hn4, hr4⟩ := fin none O' W3 hr
        exact ⟨_, _, hrun, O', hr4, .inl ⟨rfl, hI _ _ _ _ hi3 (Turned.putObj _ _ ⟨.inr (by omega), hn4⟩), by simpa using hz4, hl4, hk4⟩⟩
      | ret =>
        obtain ⟨O', hr, hi3⟩ := hp
        obtain ⟨hrun, hl4, hk4, hz4, hn4, hr4⟩ := fin (some .ret) O' W3 hr
        exact ⟨_, _, hrun, O', hr4, .inr ⟨rfl, .ret, hIx _ _ _ _ _ hi3 (Turned.putObj _ _ ⟨.inr (by omega), hn4⟩), by simpa using hz4, hl4, hk4⟩⟩
      | exit id =>
        obtain ⟨O', hr, hi3⟩ := hp
        obtain ⟨hrun, hl4, hk4, hz4, hn4, hr4⟩ := fin (some (.exit id)) O' W3 hr
        exact ⟨_, _, hrun, O', hr4, .inr ⟨rfl, .exit id, hIx _ _ _ _ _ hi3 (Turned.putObj _ _ ⟨.inr (by omega), hn4⟩), by simpa using hz4, hl4, hk4⟩⟩
      | goto t =>
        obtain ⟨O', hr, hi3⟩ := hp
        obtain ⟨hrun, hl4, hk4, hz4, hn4, hr4⟩ := fin (some (.goto t)) O' W3 hr
        exact ⟨_, _, hrun, O', hr4, .inr ⟨rfl, .goto t, hIx _ _ _ _ _ hi3 (Turned.putObj _ _ ⟨.inr (by omega), hn4⟩), by simpa using hz4, hl4, hk4⟩⟩
      | panic ch => exact hp.elim
      | outgrown => exact hp.elim
    · rintro e W3 ⟨v, O', rfl, hO', ⟨xs, hS, hi, hz, hl, hk⟩ | ⟨pre, hS, c, hi, hz, hl, hk⟩⟩
      · have hlt3 : w.heap.size + 1 < W3.heap.size := by omega
        have hO1 : ¬ O' (w.heap.size + 1) := fun h => by have := (hO' _ h).1; omega
        have hO0 : ¬ O' w.heap.size := fun h => by have := (hO' _ h).1; omega
        refine ⟨_, _, run_endLoop hl (by rw [hrec]; simp), ?_⟩
        rw [hrec]
        exact hdone _ xs O' _ (Nat.le_refl _) hO0 hS (hI _ _ _ _ hi (Turned.putObj _ _ ⟨.inr (by omega), hO1⟩)) ((World.putObj_heap_other (by omega)).trans hk)
      · have hO1 : ¬ O' (w.heap.size + 1) := fun h => by have := (hO' _ h).1; omega
        have hO0 : ¬ O' w.heap.size := fun h => by have := (hO' _ h).1; omega
        refine ⟨_, _, run_endLoop hl (by rw [hrec]; simp), ?_⟩
        rw [hrec]
        exact hstop _ c pre O' _ (Nat.le_refl _) hO0 hS (hIx _ _ _ _ _ hi (Turned.putObj _ _ ⟨.inr (by omega), hO1⟩)) ((World.putObj_heap_other (by omega)).trans hk)
end Go.Proofs.YtncbbgmhmofhnaaDoor.Pr
end

section
namespace Go.Proofs.YtncbbgmhmofhnaaDoor.Pr
open Go.RowKit Go.Proofs.YtncbbgmhmofhnaaDoorW.PrintWords Go.Proofs.YtncbbgmhmofhnaaDoorW.PrintLast Go.Proofs.YtncbbgmhmofhnaaDoorW.PrintMore
set_option linter.unusedVariables false
set_option linter.unusedSimpArgs false

theorem infoR : (Tryd.prog.info? 21).map (fun i => (i.zero, i.size, i.bytes)) = some (some (.int .i32 0), 1, 4) := by kernel_rfl
theorem eqnil_some (a : Addr) (n c : Nat) (w : World) : Sem.run Tryd.prog (binOp .eql 38 (.slice (some a) n c) (.slice none 0 0)) w = .ok (.bool false) w := by kernel_rfl
theorem eqnil_none (n c : Nat) (w : World) : Sem.run Tryd.prog (binOp .eql 38 (.slice none n c) (.slice none 0 0)) w = .ok (.bool true) w := by kernel_rfl
set_option maxRecDepth 100000 in
set_option maxHeartbeats 1000000 in
theorem clone_any (A0 : Option Addr) (c0 : Nat) (l0 : List Int) (w : World) (hr0 : Kd.C (Kd.int .i32) w A0 l0.length l0) (hc0 : l0.length ≤ c0) (hl : l0.length ≤ 1000000) :
    Calls Tryd.prog 59 #[.slice A0 l0.length c0] w fun e w' => ∃ v0_ : Value, e = .returned (v0_) ∧ Kd.R (Kd.int .i32) 21 w' w.heap.size (fun _ => True) v0_ l0 ∧ Below w.heap.size w w' := by
  cases A0 with
  | none =>
    obtain rfl : l0 = [] := by
      by_cases h : 0 < l0.length
      · obtain ⟨a, ha, _⟩ := hr0.2.2 h
        exact absurd ha (by simp)
      · exact List.length_eq_zero_iff.1 (by omega)
    have he := eqnil_none 0 c0
    clear hr0
    go_enter Tryd.func59, Tryd.ntmps59
    go_wp2_with fail
    go_ret
    exact ⟨_, rfl, Kd.R_nil _ _ _ _ _, Below.refl _ _⟩
  | some a =>
    have HR := Aside0.mk hr0
    clear hr0
    have he := eqnil_some a l0.length c0
    have HB0 : Below w.heap.size w (w.alloc (.cells #[] 21)) := below_alloc (Below.refl _ _) _
    have HO0 : Kd.R (Kd.int .i32) 21 (w.alloc (.cells #[] 21)) w.heap.size (fun _ => True) (.slice (some ⟨w.heap.size, 0, none⟩) 0 0) ([] : List Int) := by
      exact ⟨fun _ _ => trivial, [], ⟨rfl, .inr ⟨w.heap.size, 0, #[], rfl, Nat.le_refl _, (by show (w.heap.push _)[w.heap.size]? = _; simp), Nat.le_refl _, Nat.zero_le _, rfl, rfl⟩⟩, Reps.none _ _⟩
    go_enter Tryd.func59, Tryd.ntmps59
    go_wp2_with ((with_reducible refine gate_builtin (b := .append) (xs := #[.tmp 5, .tmp 6]) rfl ?_); at_builtin; refine Kd.R_append_rows (Kd.int .i32) (w0 := w) w.heap.size rfl (.tmp 5) (.tmp 6) 38 21 (.int .i32 0) 4 rfl Tryd.underlying38 infoR rfl (by decide) (by omega) (.slice (some ⟨w.heap.size, 0, none⟩) 0 0) [] l0 (some a) _ c0 (fun _ => True) (fun _ => False) rfl rfl HO0 ?aR (fun _ _ h => h) (fun _ h => h.elim) (fun _ _ => trivial) HB0 (by simp) ?aL ?_; (case aL => simp; omega); (case aR => exact Kd.C_alloc HR.out _); intro v1 w1 ho hb hg hat; rw [List.nil_append] at ho)
    go_ret
    exact ⟨_, rfl, ho, hb⟩
end Go.Proofs.YtncbbgmhmofhnaaDoor.Pr
end

section
namespace Go.Proofs.YtncbbgmhmofhnaaDoor.Pr
open Go.RowKit Go.Proofs.YtncbbgmhmofhnaaDoorW.PrintWords Go.Proofs.YtncbbgmhmofhnaaDoorW.PrintLast Go.Proofs.YtncbbgmhmofhnaaDoorW.PrintMore
set_option linter.unusedVariables false
set_option linter.unusedSimpArgs false
attribute [local go_sem] Oper.semAt_some

theorem wpListIn_append_at {F : Fence} {n : Nat} {P : Program} (w : World) {ops : Array Oper} {rest : List Oper} {o : Oper} {a : Act} {Q : Exit → Act → World → Prop}
    (hg : o.guard = none) (s x : Operand) (t : TypeId) (hop : o.op = Op.call { callee := Callee.builtin Builtin.append, args := #[s, x], argTypes := #[t, t] })
    (base : Nat) (e : TypeId) (i : TypeInfo) (z : Value) (size bytes : Nat) (h1 : P.underlying t = some (.slice e)) (h2 : P.info? e = some i) (h3 : i.zero = some z) (h4 : i.size = size) (h5 : i.bytes = bytes) (h6 : z.cells.size = size) (h7 : 0 < size)
    (v : Value) (k : Nat) (xs : List Value) (hs : a.eval s = v) (hown : w.ownsRow base e size v k xs) (ad : Addr) (m c : Nat) (news : List Value) (hx : a.eval x = .slice (some ad) m c) (hn : news.length = m * size)
    (hc : ∀ j u, news[j]? = some u → w.cell? (ad.add j) = some u) (h1c : ∀ u ∈ news, u.oneCell' = true) (b1 : k + m ≤ maxLen) (b2 : (k + m) * bytes ≤ 140737488355328) (b3 : base ≤ w.heap.size)
    (hK : ∀ v' w', w'.ownsRow base e size v' (k + m) (xs ++ news) → w.grownBy w' v.ownBlock → (v'.ownBlock = v.ownBlock ∨ v'.ownBlock = some w.heap.size) → wpListIn F n P ops Q rest (a.put o.dst v') w') :
    wpListIn F n P ops Q (o :: rest) a w := by
  refine wpListIn_plain hg fun K hK' => ?_
  obtain ⟨v', w', hrun, r1, r2, _, r3⟩ := run_append_own_at (P := P) w base t o.type e i z size bytes h1 h2 h3 h4 h5 h6 h7 v k xs hown ad m c news hn hc h1c b1 b2 b3
  unfold Oper.wpIn
  refine ⟨?_, ?_⟩
  · simp [Oper.about, hop, resolve, Target.leads, Sem.run_pure]
  · rw [Oper.semAt_plain F _ _ (by rw [hop]; intro c hc'; cases hc')]
    simp [execOp, hop, resolve, invoke, builtin, hs, hx, hrun, Result.andThen]
    exact hK' _ _ (hK v' w' r1 r2 r3)

abbrev encS (x : Int) : Array Value := #[.int .i32 x]
def vR (x : Int) : Value := .int .i32 x
/-- What the loop keeps: the variable's box holds a row of the call's own. -/
structure ApI (base Bs : Nat) (w : World) (v0 : Value) (l0 pre : List Int) (O : Nat → Prop) (W : World) : Prop where
  ex : ∃ v, Boxed W Bs 38 v ∧ W.ownsRow base 21 1 v (l0.length + pre.length) ((l0 ++ pre).map vR) ∧ (∀ k, v.ownBlock = some k → O k ∨ v0.ownBlock = some k)
  below : Below base w W
theorem ownsRow_lt {W : World} {base : Nat} {e : TypeId} {size : Nat} {v : Value} {k : Nat} {xs : List Value} (h : W.ownsRow base e size v k xs) {j : Nat} (hj : v.ownBlock = some j) : base ≤ j ∧ j < W.heap.size := by
  rcases h.2 with ⟨rfl, _⟩ | ⟨g, cap, cur, rfl, hb, hgb, _⟩
  · simp [Value.ownBlock] at hj
  · obtain rfl : g = j := by simpa [Value.ownBlock] using hj
    exact ⟨hb, (Array.getElem?_eq_some_iff.1 hgb).1⟩
theorem ownsRow_turned {T : Nat → Prop} {W W' : World} {base : Nat} {e : TypeId} {size : Nat} {v : Value} {k : Nat} {xs : List Value} (h : W.ownsRow base e size v k xs) (ht : Turned T W W') (hn : ∀ j, v.ownBlock = some j → ¬ T j) : W'.ownsRow base e size v k xs := by
  refine ⟨h.1, ?_⟩
  rcases h.2 with ⟨rfl, h0⟩ | ⟨g, cap, cur, rfl, hb, hgb, r⟩
  · exact .inl ⟨rfl, h0⟩
  · exact .inr ⟨g, cap, cur, rfl, hb, (ht.same g (Array.getElem?_eq_some_iff.1 hgb).1 (hn g (by simp [Value.ownBlock]))).trans hgb, r⟩
theorem ApI.abides {base Bs n1 : Nat} {w : World} {v0 : Value} {l0 pre : List Int} {O Q : Nat → Prop} {A B : World} (h : ApI base Bs w v0 l0 pre O A) (hQ : ∀ k, Q k → base ≤ k ∧ k ≠ Bs ∧ v0.ownBlock ≠ some k) (hB : Bs < n1) (hv : ∀ k, v0.ownBlock = some k → k < n1) (hb : base ≤ n1) (hs : base ≤ A.heap.size) (hO : ¬ O Bs)
    (ht : Turned (fun k => (Q k ∨ n1 ≤ k) ∧ ¬ O k) A B) : ApI base Bs w v0 l0 pre O B := by
  obtain ⟨v, h1, h2, h3⟩ := h.ex
  have hk : ∀ k, v.ownBlock = some k → ¬ ((Q k ∨ n1 ≤ k) ∧ ¬ O k) := fun k e hh => by
    rcases h3 k e with h | h
    · exact hh.2 h
    · rcases hh.1 with h' | h'
      · exact (hQ k h').2.2 h
      · have := hv k h; omega
  refine ⟨⟨v, ?_, ownsRow_turned h2 ht hk, h3⟩, ht.below h.below hs (fun k hk hh => ?_)⟩
  · refine (ht.same Bs h1.lt (fun hh => ?_)).trans h1
    rcases hh.1 with h' | h'
    · exact (hQ _ h').2.1 rfl
    · omega
  · rcases hh.1 with h' | h'
    · have := (hQ k h').1; omega
    · omega
set_option maxRecDepth 100000 in
set_option maxHeartbeats 2000000 in
theorem appendSeq_any (gf : Nat) (lb : Array Value) (eg : ∀ args w, (callFunc gf args).run Tryd.prog w = .ok (.enter gf args) w) (Q : Nat → Prop) (base : Nat) (v0 : Value) (l0 xs : List Int) (w : World)
    (hown : w.ownsRow base 21 1 v0 l0.length (l0.map vR)) (hb : base ≤ w.heap.size) (hQ : ∀ k, Q k → base ≤ k ∧ k < w.heap.size ∧ v0.ownBlock ≠ some k) (hlen : l0.length + xs.length ≤ 30000000000000)
    (hseq : Gives Tryd.prog gf lb encS Q (fun _ => True) (fun zs => zs = xs) (fun _ => True) xs.length w) :
    Calls Tryd.prog 38 #[v0, .func (.func gf) #[] lb] w fun e w' => ∃ v, e = .returned v ∧ w'.ownsRow base 21 1 v (l0 ++ xs).length ((l0 ++ xs).map vR) ∧ Below base w w' := by
  obtain ⟨A0, m0, c0, hv0⟩ : ∃ A m c, v0 = .slice A m c := by
    rcases hown.2 with ⟨h, _⟩ | ⟨g, cap, cur, h, _⟩
    · exact ⟨_, _, _, h⟩
    · exact ⟨_, _, _, h⟩
  have hlt := fun k (e : v0.ownBlock = some k) => ownsRow_lt hown e
  obtain ⟨i0, hi, hz0, hz1, hz2⟩ := info_parts infoR
  have HV := Aside0.mk hv0
  suffices hS : Calls Tryd.prog 38 #[.slice A0 m0 c0, .func (.func gf) #[] lb] w fun e w' => ∃ v, e = .returned v ∧ w'.ownsRow base 21 1 v (l0 ++ xs).length ((l0 ++ xs).map vR) ∧ Below base w w' by
    rw [hv0]; exact hS
  refine (callsIn_wide (n := 12)).1 (callsIn_of_wp_marks Tryd.func38 rfl trivial ?_ rfl)
  simp only [Tryd.ntmps38, List.size_toArray, List.length_cons, List.length_nil, Nat.reduceAdd, Nat.reduceSub, Array.replicate_succ, Array.replicate_zero, List.push_toArray, List.append_toArray, List.nil_append, List.cons_append]
  gi_wp2
  have hbox := Boxed.new w 38 (.slice A0 m0 c0)
  have hB0 : Below base w (w.alloc (.cells #[.slice A0 m0 c0] 38)) := (Below.refl _ _).alloc hb _
  have hsz : (w.alloc (.cells #[.slice A0 m0 c0] 38)).heap.size = w.heap.size + 1 := by simp
  have hrow0 : (w.alloc (.cells #[.slice A0 m0 c0] 38)).ownsRow base 21 1 v0 l0.length (l0.map vR) := hown.alloc _
  have hbw : Below w.heap.size w (w.alloc (.cells #[.slice A0 m0 c0] 38)) := below_alloc (Below.refl _ _) _
  generalize w.alloc (.cells #[.slice A0 m0 c0] 38) = w1 at hbox hB0 hsz hrow0 hbw ⊢
  refine wpIn_rangeFunc_gives (n := 12) (gf := gf) (lb := lb) (a₁ := fun x => { tmps := #[.slice A0 m0 c0, .func (.func gf) #[] lb, .pointer (some ⟨w.heap.size, 0, none⟩), undef, .slice none 0 0, .int .i32 x, .func (.func gf) #[] lb, .int .i32 x, undef, undef, undef, undef, undef], defers := [] }) rfl eg hseq hbw (fun k h => by have := (hQ k h).2.1; omega) (fun _ => rfl)
    (fun pre O W => ApI base w.heap.size w v0 l0 pre O W ∧ pre.length ≤ xs.length ∧ base ≤ W.heap.size ∧ ¬ O w.heap.size)
    (fun _ _ _ _ => False)
    (fun _ _ _ _ => trivial) ?hI ?hIx ?h0 ?assign ?body ?done ?stop
  case hI =>
    rintro s O A B ⟨h1, h2, h3, h4⟩ ht
    exact ⟨h1.abides (fun k h => ⟨(hQ k h).1, by have := (hQ k h).2.1; omega, (hQ k h).2.2⟩) (n1 := w1.heap.size) (by omega) (fun k e => by have := (hlt k e).2; omega) (by omega) h3 h4 ht, h2, Nat.le_trans h3 ht.size, h4⟩
  case hIx => exact fun _ _ _ _ _ h _ => h
  case h0 => exact ⟨⟨⟨v0, by rw [HV.out]; exact hbox, by simpa using hrow0, fun k e => .inr e⟩, hB0⟩, by simp, by omega, fun h => h⟩
  case assign =>
    intro l x W K hK
    gi_wp2
    exact hK
  case body =>
    rintro l pre x O W ⟨hA, hpl, hbW, hnO⟩ hN hOge hWge
    obtain ⟨v, hv, hrow, hvO⟩ := hA.ex
    have hc := hv.cell
    have hrow' : W.ownsRow base 21 1 v (l0.length + pre.length) ((l0 ++ pre).map vR) := hrow
    gi_wp2_with (gi_at_builtin; refine wpListIn_append_at _ rfl _ _ 38 rfl base 21 i0 (.int .i32 0) 1 4 Tryd.underlying38 hi hz0 hz1 hz2 rfl (by decide) _ _ _ rfl (hrow'.alloc _) ⟨W.heap.size, 0, none⟩ 1 1 [vR x] rfl rfl (cell_one_new _ _ _) (by simp [Value.oneCell', vR]) (by simp [maxLen]; omega) (by omega) (by simp; omega) ?_; intro v' w2 hown' hgrow hat; obtain ⟨g', cap', rfl⟩ := ownsRow_succ hown'; obtain ⟨hv1, hv2, hr2, hk2, hb2⟩ := hv.appended (by decide) hrow' hbW hb hown' hgrow; have hc1 := hv1.cell; have hf1 := hv1.frozen)
    have hWs : W.heap.size ≤ w2.heap.size := Nat.le_trans (by simp) hgrow.size
    refine ⟨fun k => O k ∨ (k = g' ∧ W.heap.size ≤ k), ⟨by simpa using hWs, fun k h => h.imp id (fun h => h.2), fun k h => ?_, fun k hk hC hnk => ?_⟩, ⟨⟨_, hv2, ?_, ?_⟩, hA.below.trans hb2⟩, by simp; omega, by simp; omega, ?_⟩
    · rw [World.size_setCell]
      rcases h with h | ⟨rfl, _⟩
      · have := (hOge k h).2; omega
      · exact (ownsRow_lt hown' (by simp [Value.ownBlock])).2
    · have hkB : k ≠ w.heap.size := fun e => by
        subst e
        rcases hC with h | h
        · have := (hQ _ h).2.1; omega
        · omega
      have hkv : some k ≠ v.ownBlock := fun e => by
        rcases hvO k e.symm with h | h
        · exact hnk h
        · rcases hC with h' | h'
          · exact (hQ _ h').2.2 h
          · have := (hlt k h).2; omega
      rw [Below.heap_setCell _ _ _ k (fun e => hkB e), hgrow.block k (by simp; omega) hkv]
      exact Below.heap_alloc _ _ k hk
    · have e1 : (l0 ++ (pre ++ [x])).map vR = (l0 ++ pre).map vR ++ [vR x] := by simp
      rw [e1, List.length_append, List.length_singleton, ← Nat.add_assoc]
      exact hr2
    · intro k e
      have ek : k = g' := by simpa [Value.ownBlock] using e.symm
      rcases hat with h | h
      · rcases hvO k (h.symm.trans e) with h' | h'
        · exact .inl (.inl h')
        · exact .inr h'
      · have : k = W.heap.size + 1 := by have := e.symm.trans h; simpa using this
        exact .inl (.inr ⟨ek, by omega⟩)
    · rintro (h | ⟨_, h⟩)
      · exact hnO h
      · omega
  case done =>
    rintro D zs O W hD hnD rfl ⟨hA, _, hbW, hnO⟩ hK
    obtain ⟨v, hv, hrow, _⟩ := hA.ex
    have hc := hv.cell
    gi_wp2
    refine ⟨by simp, .inl ⟨_, _, rfl, run_takeDeferred hK, ?_⟩⟩
    have hT : Turned (fun k => k = D) W (W.putObj D (.deferred none)) := Turned.putObj _ _ rfl
    refine ⟨_, results_tmp rfl _ _ _, v, rfl, ?_, hT.below hA.below hbW (fun k hk e => by omega)⟩
    rw [List.length_append]
    refine ownsRow_putObj hrow _ hK rfl
  case stop => exact fun _ _ _ _ _ _ _ _ h _ => h.elim
end Go.Proofs.YtncbbgmhmofhnaaDoor.Pr
end

section
namespace Go.Proofs.YtncbbgmhmofhnaaDoor.Pr
open Go.RowKit Go.Proofs.YtncbbgmhmofhnaaDoorW.PrintWords Go.Proofs.YtncbbgmhmofhnaaDoorW.PrintLast Go.Proofs.YtncbbgmhmofhnaaDoorW.PrintMore
set_option linter.unusedVariables false
set_option linter.unusedSimpArgs false
attribute [local go_sem] Oper.semAt_some

theorem RoundIn.wide0' {m m' : Nat} {P : Program} {l : Nat} {f : FuncId} {tmps : Array Value} {assign body : Code} {w : World} {R : Ending → World → Prop} (h : RoundIn Fence.wide m P l f tmps assign body w R) : RoundIn Fence.wide m' P l f tmps assign body w R := ⟨h.1, fun c cs _ => h.2 c cs (room_wide _)⟩
/-- What stands in bytes, one behind the other; none: never so. -/
def allO : Nat → ByteArray → Option (List (Int × Bool))
  | 0, s => if s.size = 0 then some [] else none
  | f + 1, s => if s.size = 0 then some [] else (utf_Next.f 20 s).bind fun t => if 0 < t.2.1 ∧ t.2.1 ≤ (s.size : Int) then (allO f (s.extract t.2.1.toNat s.size)).map ((t.1, t.2.2) :: ·) else none
theorem allO_nil (f : Nat) {s : ByteArray} (h : s.size = 0) : allO f s = some [] := by
  cases f <;> rw [allO, if_pos h]
abbrev encA (x : Int × Bool) : Array Value := #[.int .i32 x.1, .bool x.2]
def boxLen (B : Nat) (W : World) : Nat := match W.cell? ⟨B, 0, none⟩ with
  | some (.string s) => s.size
  | _ => 0
theorem all_makes (s : ByteArray) (w : World) : Calls Tryd.prog 41 #[.string s] w fun e w' => e = .returned (.func (.func 64) #[] #[.pointer (some ⟨w.heap.size, 0, none⟩)]) ∧ w' = w.alloc (.cells #[.string s] 9) := by
  have hmf : ∀ (fn : Fn) (first cap : Array Value) (w : World), (Instr.makeFunc fn first cap).run Tryd.prog w = .ok (.func fn first cap) w := fun _ _ _ _ => rfl
  go_enter Tryd.func41, Tryd.ntmps41
  go_wp2
  go_ret
  exact ⟨rfl, rfl⟩
/-- Under way: what has come, what is left in the box. -/
structure AllS (J : List (Int × Bool) → (Nat → Prop) → World → Prop) (n1 Bs : Nat) (all : List (Int × Bool)) (pre : List (Int × Bool)) (s : ByteArray) (O : Nat → Prop) (U : World) : Prop where
  j : J pre O U
  o : ∀ k, O k → n1 ≤ k ∧ k < U.heap.size
  b : ¬ O Bs
  box : Boxed U Bs 9 (.string s)
  left : ∃ f rest, allO f s = some rest ∧ all = pre ++ rest
  size : n1 ≤ U.heap.size
set_option maxRecDepth 100000 in
set_option maxHeartbeats 4000000 in
theorem all_gives (s : ByteArray) (f : Nat) (xs : List (Int × Bool)) (hx : allO f s = some xs) (Bs : Nat) (w : World) (hb : Boxed w Bs 9 (.string s)) :
    Gives Tryd.prog 64 #[.pointer (some ⟨Bs, 0, none⟩)] encA (fun j => j = Bs) WG (fun zs => zs = xs) (fun _ => True) xs.length w := by
  intro l J Jx W hW hH hJ hJx hY h0
  have hbW : Boxed W Bs 9 (.string s) := (hW.block Bs hb.lt).trans hb
  refine (callsIn_wide (n := 12)).1 (callsIn_of_wp_marks Tryd.func64 rfl trivial ?_ rfl)
  simp only [Tryd.ntmps64, List.size_toArray, List.length_cons, List.length_nil, Nat.reduceAdd, Nat.reduceSub, Array.replicate_succ, Array.replicate_zero, List.push_toArray, List.append_toArray, List.nil_append, List.cons_append]
  have hS0 := Aside0.mk (show AllS J W.heap.size Bs xs [] s (fun _ => False) W from ⟨h0, fun k h => h.elim, fun h => h, hbW, ⟨f, xs, hx, rfl⟩, Nat.le_refl _⟩)
  gi_wp2
  gi_loopw [6] (fun _ wr => ∃ (pre : List (Int × Bool)) (s' : ByteArray) (O : Nat → Prop), Aside0 (AllS J W.heap.size Bs xs pre s' O wr)) (fun _ wr => boxLen Bs wr)
  case atStart => exact ⟨[], s, _, hS0⟩
  case round =>
    clear hS0
    obtain ⟨pre, s', O, HS⟩ := hrel
    have hc := HS.out.box.cell
    obtain ⟨f', rest, hr1, hr2⟩ := HS.out.left
    by_cases hz : s'.size = 0
    · have hne : s' = ⟨#[]⟩ := by
        cases s' with
        | mk d => simp [ByteArray.size] at hz; simp [hz]
      subst hne
      have hz' := Aside0.mk hz
      clear hz
      gi_wp2
      have hz := hz'.out
      have hxs : pre = xs := by
        have : rest = [] := by
          rw [allO_nil f' hz] at hr1
          exact (Option.some.inj hr1).symm
        rw [hr2, this, List.append_nil]
      exact ⟨_, results_none rfl _ _ _, _, O, rfl, HS.out.o, .inl ⟨xs, rfl, by rw [← hxs]; exact HS.out.j⟩⟩
    · obtain ⟨f', rfl⟩ : ∃ g, f' = g + 1 := by
        cases f' with
        | zero => simp [allO, hz] at hr1
        | succ g => exact ⟨g, rfl⟩
      rw [allO, if_neg hz] at hr1
      obtain ⟨⟨r, m, b⟩, hn, hr3⟩ := Option.bind_eq_some_iff.1 hr1
      simp only at hr3
      split at hr3
      · next hm =>
        obtain ⟨rest', hr4, hr5⟩ := Option.map_eq_some_iff.1 hr3
        subst hr5
        have hnx := utf_Next.calls 20 s' r m b wr hn (hH _ _ _ HS.out.j)
        have hne : (s'.toList == ([] : List UInt8)) = false := by
          rw [beq_eq_false_iff_ne]
          intro h
          have h2 : s'.data.toList = [] := by rw [← Lib.toList_data]; exact h
          apply hz
          show s'.data.size = 0
          rw [← Array.length_toList, h2]; rfl
        have hBs := HS.out.box.lt
        have hBW := hbW.lt
        obtain ⟨mn, rfl⟩ : ∃ k : Nat, m = (k : Int) := ⟨m.toNat, by omega⟩
        have hm1 : 0 < mn := by omega
        have hm2 : mn ≤ s'.size := by omega
        have hm3 : (mn : Int) ≤ (s'.size : Int) := by omega
        have hlen : pre.length < xs.length := by rw [hr2, List.length_append]; simp
        gi_wp2_with (refine ⟨trivial, ?_⟩; gi_at_call 65; refine ((callsIn_wide (n := 11)).2 hnx).mono ?_; rintro e w2 ⟨rfl, hb2⟩; obtain ⟨fn, tmps, assign, body, hy, hRd⟩ := hY pre (r, b) O w2 (hJ _ _ _ _ HS.out.j (Turned.of_below _ hb2)) (Nat.le_trans HS.out.size hb2.size) (fun k h => ⟨(HS.out.o k h).1, Nat.lt_of_lt_of_le (HS.out.o k h).2 hb2.size⟩) hlen)
        have hbx2 : Boxed w2 Bs 9 (.string s') := (hb2.block Bs hBs).trans HS.out.box
        refine (RoundIn.wide0' hRd).mono ?_
        rintro e W3 ⟨O', hr, ⟨rfl, hj⟩ | ⟨rfl, hj⟩⟩
        · have hbx3 : Boxed W3 Bs 9 (.string s') := (hr.same Bs hbx2.lt (.inl rfl) HS.out.b).trans hbx2
          have hc3 := hbx3.cell
          have hf3 := hbx3.frozen
          have hnb : ¬ O' Bs := fun h => by
            rcases hr.new Bs h with h | h
            · exact HS.out.b h
            · have := hb2.size; omega
          have hS4 : AllS J W.heap.size Bs xs (pre ++ [(r, b)]) (s'.extract mn s'.size) O' (W3.setCell ⟨Bs, 0, none⟩ (.string (s'.extract mn s'.size))) :=
            ⟨hJ _ _ _ _ hj (Turned.setCell _ _ _ ⟨.inl rfl, hnb⟩), fun k h => ⟨(hr.new k h).elim (fun h' => (HS.out.o k h').1) (fun h' => Nat.le_trans HS.out.size (Nat.le_trans hb2.size h')), by rw [World.size_setCell]; exact hr.lt k h⟩, hnb, hbx3.set _, ⟨f', rest', by rw [Int.toNat_natCast] at hr4; exact hr4, by rw [hr2]; simp⟩, by rw [World.size_setCell]; exact Nat.le_trans HS.out.size (Nat.le_trans hb2.size hr.size)⟩
          replace hS4 := Aside0.mk hS4
          have hM : Aside0 (boxLen Bs (W3.setCell ⟨Bs, 0, none⟩ (.string (s'.extract mn s'.size))) < boxLen Bs wr) := ⟨by
            unfold boxLen
            rw [hS4.out.box.cell, HS.out.box.cell]
            simp
            omega⟩
          gi_wp2
          go_roundw
          case rel => exact ⟨_, _, O', hS4⟩
          case measure => exact hM.out
        · gi_wp2
          exact ⟨_, results_none rfl _ _ _, _, O', rfl, fun k h => ⟨(hr.new k h).elim (fun h' => (HS.out.o k h').1) (fun h' => Nat.le_trans HS.out.size (Nat.le_trans hb2.size h')), hr.lt k h⟩, .inr ⟨_, trivial, hj⟩⟩
      · cases hr3

theorem ints_reps' {w : World} {base : Nat} {ok : Nat → Prop} (xs : List Int) : Reps ((Kd.int .i32).M w base ok) 1 xs (xs.map vR) := by
  refine ⟨by simp, fun j p hj => ?_⟩
  show _ = [Value.int .i32 p]
  refine List.ext_getElem? fun i => ?_
  rw [Nat.mul_one, List.getElem?_take]
  by_cases hi : i < 1
  · obtain rfl : i = 0 := by omega
    rw [if_pos (by omega), List.getElem?_drop, List.getElem?_map, Nat.add_zero, hj]
    rfl
  · rw [if_neg hi, List.getElem?_eq_none (by simp; omega)]
theorem allO_len : ∀ (f : Nat) (s : ByteArray) (xs : List (Int × Bool)), allO f s = some xs → xs.length ≤ f
  | 0, s, xs, h => by
    rw [allO] at h
    split at h
    · obtain rfl := Option.some.inj h; simp
    · cases h
  | f + 1, s, xs, h => by
    rw [allO] at h
    split at h
    · obtain rfl := Option.some.inj h; simp
    · obtain ⟨t, _, h2⟩ := Option.bind_eq_some_iff.1 h
      split at h2
      · obtain ⟨r, h3, rfl⟩ := Option.map_eq_some_iff.1 h2
        have := allO_len f _ _ h3
        simp; omega
      · cases h2
theorem WG.turned {T : Nat → Prop} {A B : World} (h : WG A) (ht : Turned T A B) (h0 : ¬ T 0) (h1 : ¬ T 1) : WG B :=
  ⟨fun c hc => ht.cell (h.1 c hc) h0, fun i hi => ⟨ht.cell (h.2 i hi).1 h1, ht.cell (h.2 i hi).2 h1⟩⟩
theorem WG.lt {A : World} (h : WG A) : 0 < A.heap.size ∧ 1 < A.heap.size := ⟨World.block_lt_of_cell? _ _ (h.1 0 (by omega)), World.block_lt_of_cell? _ _ (h.2 0 (by omega)).1⟩
def utf_Decode.f (s : ByteArray) : Option (List Int) := if s.size ≤ 1000000000 then (allO s.size s).map (·.map Prod.fst) else none
set_option maxRecDepth 100000 in
set_option maxHeartbeats 2000000 in
theorem decode_any (s : ByteArray) (xs : List (Int × Bool)) (hx : allO s.size s = some xs) (hs : s.size ≤ 1000000000) (w : World) (hG : WG w) :
    Calls Tryd.prog 22 #[.string s] w fun e w' => ∃ v0_ : Value, e = .returned (v0_) ∧ Kd.R (Kd.int .i32) 21 w' w.heap.size (fun _ => True) v0_ (xs.map Prod.fst) ∧ Below w.heap.size w w' := by
  have eg : ∀ args w, (callFunc 64 args).run Tryd.prog w = .ok (.enter 64 args) w := enters_of Tryd.func64 (by kernel_rfl) rfl
  obtain ⟨i0, hi, hz0, hz1, hz2⟩ := info_parts infoR
  have hxl := allO_len _ _ _ hx
  refine (callsIn_wide (n := 12)).1 (callsIn_of_wp_marks Tryd.func22 rfl trivial ?_ rfl)
  simp only [Tryd.ntmps22, List.size_toArray, List.length_cons, List.length_nil, Nat.reduceAdd, Nat.reduceSub, Array.replicate_succ, Array.replicate_zero, List.push_toArray, List.append_toArray, List.nil_append, List.cons_append]
  gi_wp2_with (refine ⟨trivial, ?_⟩; gi_at_call 41; refine ((callsIn_wide (n := 11)).2 (all_makes s _)).mono ?_; rintro e w9 ⟨rfl, rfl⟩)
  have hbox := (Boxed.new w 38 (.slice none 0 0)).alloc (.cells #[.string s] 9)
  have hsb := Boxed.new (w.alloc (.cells #[.slice none 0 0] 38)) 9 (.string s)
  have hB0 : Below w.heap.size w ((w.alloc (.cells #[.slice none 0 0] 38)).alloc (.cells #[.string s] 9)) := below_alloc (below_alloc (Below.refl _ _) _) _
  have hsz : ((w.alloc (.cells #[.slice none 0 0] 38)).alloc (.cells #[.string s] 9)).heap.size = w.heap.size + 2 := by simp
  rw [World.size_alloc] at hsb
  have hG0 := WG.keep hG hB0
  have hlt := hG.lt
  generalize (w.alloc (.cells #[.slice none 0 0] 38)).alloc (.cells #[.string s] 9) = w1 at hbox hsb hB0 hsz hG0 ⊢
  have hseq := all_gives s s.size xs hx (w.heap.size + 1) w1 hsb
  refine wpIn_rangeFunc_gives (n := 12) (gf := 64) (lb := #[.pointer (some ⟨w.heap.size + 1, 0, none⟩)]) (a₁ := fun x => { tmps := #[.string s, undef, .slice none 0 0, .pointer (some ⟨w.heap.size, 0, none⟩), .int .i32 x.1, .string s, .func (.func 64) #[] #[.pointer (some ⟨w.heap.size + 1, 0, none⟩)], .int .i32 x.1, .bool x.2, undef, undef, undef, undef, undef], defers := [] }) rfl eg hseq (Below.refl _ _) (fun k h => by subst h; omega) (fun _ => rfl)
    (fun pre O W => ApI w.heap.size w.heap.size w (.slice none 0 0) [] (pre.map Prod.fst) O W ∧ pre.length ≤ xs.length ∧ w.heap.size ≤ W.heap.size ∧ ¬ O w.heap.size ∧ WG W)
    (fun _ _ _ _ => False)
    (fun s O A h => h.2.2.2.2) ?hI ?hIx ?h0 ?assign ?body ?done ?stop
  case hI =>
    rintro s O A B ⟨h1, h2, h3, h4, h5⟩ ht
    exact ⟨h1.abides (Q := fun j => j = w.heap.size + 1) (fun k h => by subst h; exact ⟨by omega, by omega, by simp [Value.ownBlock]⟩) (n1 := w1.heap.size) (by omega) (fun k e => by simp [Value.ownBlock] at e) (by omega) h3 h4 ht, h2, Nat.le_trans h3 ht.size, h4,
      h5.turned ht (fun h => by rcases h.1 with h | h <;> omega) (fun h => by rcases h.1 with h | h <;> omega)⟩
  case hIx => exact fun _ _ _ _ _ h _ => h
  case h0 => exact ⟨⟨⟨_, hbox, World.ownsRow_nil _ _ _ _, fun k e => .inr e⟩, hB0⟩, by simp, by omega, fun h => h, hG0⟩
  case assign =>
    intro l x W K hK
    gi_wp2
    exact hK
  case body =>
    rintro l pre x O W ⟨hA, hpl, hbW, hnO, hGW⟩ hN hOge hWge
    obtain ⟨v, hv, hrow, hvO⟩ := hA.ex
    have hc := hv.cell
    have hrow' : W.ownsRow w.heap.size 21 1 v (([] : List Int).length + (pre.map Prod.fst).length) (([] ++ pre.map Prod.fst).map vR) := hrow
    rw [List.length_nil, Nat.zero_add, List.nil_append, List.length_map] at hrow'
    gi_wp2_with (gi_at_builtin; refine wpListIn_append_at _ rfl _ _ 38 rfl w.heap.size 21 i0 (.int .i32 0) 1 4 Tryd.underlying38 hi hz0 hz1 hz2 rfl (by decide) _ _ _ rfl (hrow'.alloc _) ⟨W.heap.size, 0, none⟩ 1 1 [vR x.1] rfl rfl (cell_one_new _ _ _) (by simp [Value.oneCell', vR]) (by simp [maxLen]; omega) (by omega) (by simp; omega) ?_; intro v' w2 hown' hgrow hat; obtain ⟨g', cap', rfl⟩ := ownsRow_succ hown'; obtain ⟨hv1, hv2, hr2, hk2, hb2⟩ := hv.appended (by decide) hrow' hbW (Nat.le_refl _) hown' hgrow; have hc1 := hv1.cell; have hf1 := hv1.frozen)
    have hWs : W.heap.size ≤ w2.heap.size := Nat.le_trans (by simp) hgrow.size
    refine ⟨fun k => O k ∨ (k = g' ∧ W.heap.size ≤ k), ⟨by simpa using hWs, fun k h => h.imp id (fun h => h.2), fun k h => ?_, fun k hk hC hnk => ?_⟩, ⟨⟨_, hv2, ?_, ?_⟩, hA.below.trans hb2⟩, by simp; omega, by simp; omega, ?_, ?_⟩
    · rw [World.size_setCell]
      rcases h with h | ⟨rfl, _⟩
      · have := (hOge k h).2; omega
      · exact (ownsRow_lt hown' (by simp [Value.ownBlock])).2
    · have hkB : k ≠ w.heap.size := fun e => by
        subst e
        rcases hC with h | h <;> omega
      have hkv : some k ≠ v.ownBlock := fun e => by
        rcases hvO k e.symm with h | h
        · exact hnk h
        · simp [Value.ownBlock] at h
      rw [Below.heap_setCell _ _ _ k (fun e => hkB e), hgrow.block k (by simp; omega) hkv]
      exact Below.heap_alloc _ _ k hk
    · have e1 : ([] ++ (pre ++ [x]).map Prod.fst).map vR = (pre.map Prod.fst).map vR ++ [vR x.1] := by simp
      rw [e1, List.length_nil, Nat.zero_add, List.length_map, List.length_append, List.length_singleton]
      exact hr2
    · intro k e
      have ek : k = g' := by simpa [Value.ownBlock] using e.symm
      rcases hat with h | h
      · rcases hvO k (h.symm.trans e) with h' | h'
        · exact .inl (.inl h')
        · exact .inr h'
      · have : k = W.heap.size + 1 := by have := e.symm.trans h; simpa using this
        exact .inl (.inr ⟨ek, by omega⟩)
    · rintro (h | ⟨_, h⟩)
      · exact hnO h
      · omega
    · exact ⟨fun c hc => (hb2.cell (p := ⟨_, c, none⟩) hlt.1).trans (hGW.1 c hc), fun i hi => ⟨(hb2.cell (p := ⟨_, 2 * i, none⟩) hlt.2).trans (hGW.2 i hi).1, (hb2.cell (p := ⟨_, 2 * i + 1, none⟩) hlt.2).trans (hGW.2 i hi).2⟩⟩
  case done =>
    rintro D zs O W hD hnD rfl ⟨hA, _, hbW, hnO, _⟩ hK
    obtain ⟨v, hv, hrow, _⟩ := hA.ex
    have hc := hv.cell
    gi_wp2
    refine ⟨by simp, .inl ⟨_, _, rfl, run_takeDeferred hK, ?_⟩⟩
    have hT : Turned (fun k => k = D) W (W.putObj D (.deferred none)) := Turned.putObj _ _ rfl
    have hfin := ownsRow_putObj hrow (.deferred none) hK rfl
    rw [List.length_nil, Nat.zero_add, List.nil_append] at hfin
    refine ⟨_, results_tmp rfl _ _ _, v, rfl, ⟨fun _ _ => trivial, _, hfin, ints_reps' _⟩, hT.below hA.below hbW (fun k hk e => by omega)⟩
  case stop => exact fun _ _ _ _ _ _ _ _ h _ => h.elim
theorem utf_Decode.calls (a0 : ByteArray) (r : List Int) (w : World) (h : utf_Decode.f a0 = some r) (hG : WG w) :
    Calls Tryd.prog 22 #[.string a0] w fun e w' => ∃ v0_ : Value, e = .returned (v0_) ∧ Kd.R (Kd.int .i32) 21 w' w.heap.size (fun _ => True) v0_ r ∧ Below w.heap.size w w' := by
  unfold utf_Decode.f at h
  split at h
  · next hl =>
    obtain ⟨xs, hx, rfl⟩ := Option.map_eq_some_iff.1 h
    exact decode_any a0 xs hx hl w hG
  · cases h
end Go.Proofs.YtncbbgmhmofhnaaDoor.Pr
end

section
namespace Go.Proofs.YtncbbgmhmofhnaaDoor.Pr
open Go.RowKit Go.Proofs.YtncbbgmhmofhnaaDoorW.PrintWords Go.Proofs.YtncbbgmhmofhnaaDoorW.PrintLast Go.Proofs.YtncbbgmhmofhnaaDoorW.PrintMore
set_option linter.unusedVariables false
set_option linter.unusedSimpArgs false

def runesZ (l : List Int) : List Int := l.flatMap Lib.encodeRuneZ
def encP (l : List Int) : ByteArray × Int := if l.all Lib.validRune then (strOfNums (runesZ l), 0) else (⟨#[]⟩, 2)
def utf_Encode.f (l : List Int) : Option (ByteArray × Int) := if l.length ≤ 1000000 ∧ ∀ x ∈ l, -2147483648 ≤ x ∧ x ≤ 2147483647 then some (encP l) else none
theorem runesZ_append (a b : List Int) : runesZ (a ++ b) = runesZ a ++ runesZ b := List.flatMap_append
theorem encodeZ_len (r : Int) : (Lib.encodeRuneZ r).length ≤ 4 := by
  unfold Lib.encodeRuneZ
  repeat' split
  all_goals simp
theorem runesZ_len : ∀ l : List Int, (runesZ l).length ≤ 4 * l.length
  | [] => Nat.zero_le _
  | x :: l => by
    have h1 := encodeZ_len x
    have h2 := runesZ_len l
    have e : runesZ (x :: l) = Lib.encodeRuneZ x ++ runesZ l := rfl
    rw [e, List.length_append, List.length_cons]
    omega
set_option maxRecDepth 100000 in
set_option maxHeartbeats 2000000 in
theorem encode_any (A0 : Option Addr) (c0 : Nat) (l0 : List Int) (w : World) (hr0 : Kd.C (Kd.int .i32) w A0 l0.length l0) (hc0 : l0.length ≤ c0) (hl : l0.length ≤ 1000000) (h32 : ∀ x ∈ l0, -2147483648 ≤ x ∧ x ≤ 2147483647) :
    Calls Tryd.prog 24 #[.slice A0 l0.length c0] w fun e w' => e = .returned (.tuple #[.string (encP l0).1, .int .i64 (encP l0).2]) ∧ Below w.heap.size w w' := by
  obtain ⟨n, hn⟩ : ∃ n, l0.length = n := ⟨_, rfl⟩
  rw [hn] at hl hr0 hc0 ⊢
  have HR := Aside0.mk hr0
  have HN := Aside0.mk hn
  have H32 := Aside0.mk h32
  clear hr0 hn h32
  go_enter Tryd.func24, Tryd.ntmps24
  go_wp2_with fail
  go_loopw [4, 9] (fun v vi wr => ∃ (i : Nat), vi = .int .i64 (i : Int) ∧ i ≤ n ∧ Aside0 ((l0.take i).all Lib.validRune = true) ∧ Aside0 (wr.ownsRow w.heap.size 5 1 v (runesZ (l0.take i)).length (nums .u8 (runesZ (l0.take i)))) ∧ Aside0 (Below w.heap.size w wr)) (fun _ vi _ => n - (intOf vi).toNat)
  case atStart => exact ⟨0, by rfl, by omega, ⟨rfl⟩, ⟨World.ownsRow_nil w w.heap.size _ _⟩, ⟨Below.refl _ _⟩⟩
  case round =>
    obtain ⟨i, rfl, hin, HV, HW, HB⟩ := hrel
    by_cases hlt : i < n
    · obtain ⟨x, hx⟩ : ∃ x, l0[i]? = some x := ⟨_, List.getElem?_eq_getElem (by rw [HN.out]; exact hlt)⟩
      obtain ⟨ad, hA, hcell⟩ := HR.out.2.2 (by omega)
      subst hA
      have hcx : wr.cell? (ad.add i) = some (.int .i32 x) := by
        obtain ⟨c, hc1, hc2, hc3⟩ := hcell i x hx
        have hc2' : c = [Value.int .i32 x] := hc2
        have := hc3 0 (.int .i32 x) (by rw [hc2']; rfl)
        have e1 : i * (Kd.int .i32).sz + 0 = i := by show i * 1 + 0 = i; omega
        rw [e1] at this
        exact pw_cell_below HB.out this
      have hz : (i : Int) < (n : Int) := by omega
      have hx32 := H32.out x (List.mem_of_getElem? hx)
      have ht : l0.take (i + 1) = l0.take i ++ [x] := by rw [List.take_add_one, hx]; rfl
      have hvx := Tryd.utf8_ValidRune x
      by_cases hval : Lib.validRune x = true
      · rw [hval] at hvx
        have hPl : (runesZ (l0.take i)).length ≤ 4 * n := by have := runesZ_len (l0.take i); rw [List.length_take] at this; omega
        have happ := Tryd.utf8_AppendRune_plain w.heap.size _ _ _ x hx32.1 hx32.2 wr HW.out (by omega) HB.out.size
        have happ2 : Aside0 (Calls Tryd.prog 43 _ wr fun e w' => ∃ v', e = .returned v' ∧ Aside0 (w'.ownsRow w.heap.size 5 1 v' (runesZ (l0.take (i + 1))).length (nums .u8 (runesZ (l0.take (i + 1))))) ∧ Aside0 (Below w.heap.size w w')) := ⟨happ.mono fun e w' ⟨v', he, ho, o, hg⟩ => ⟨v', he, ⟨by
            rw [ht, runesZ_append]
            have e1 : runesZ [x] = Lib.encodeRuneZ x := by simp [runesZ]
            have e2 : Lib.runeCells x = nums .u8 (Lib.encodeRuneZ x) := rfl
            rw [e1, List.length_append, nums_append, ← e2]
            have e3 : (Lib.runeCells x).length = (Lib.encodeRuneZ x).length := by rw [e2, nums_length]
            rw [← e3]
            exact ho⟩, ⟨(HB.out.alloc HB.out.size o).grown hg (Nat.le_trans HB.out.size (by simp)) (fun k e => own_base HW.out k e)⟩⟩⟩
        have HV2 : Aside0 ((l0.take (i + 1)).all Lib.validRune = true) := ⟨by rw [ht, List.all_append, HV.out]; simpa using hval⟩
        clear happ hPl ht hval HW HV hcell hx hx32
        go_wp2_with (first | (go_at_call 42; (with_reducible refine (hvx _).mono ?_); rintro e w' ⟨rfl, rfl⟩) | (go_at_call 43; (with_reducible refine happ2.out.mono ?_); rintro e w9 ⟨v9, rfl, ho9, hb9⟩))
        go_roundw
        case rel => exact ⟨i + 1, by go_num, by omega, HV2, ho9, hb9⟩
        case measure => simp [intOf]; omega
      · rw [Bool.eq_false_iff.2 hval] at hvx
        have hE : encP l0 = (⟨#[]⟩, 2) := by
          unfold encP
          rw [if_neg]
          intro h
          exact hval (List.all_eq_true.1 h x (List.mem_of_getElem? hx))
        replace hE := Aside0.mk hE
        clear hval HW HV hcell hx hx32 ht
        go_wp2_with (first | (go_at_call 42; (with_reducible refine (hvx _).mono ?_); rintro e w' ⟨rfl, rfl⟩))
        go_ret2
        exact ⟨by rw [hE.out]; rfl, HB.out⟩
    · have hz : ¬ (i : Int) < (n : Int) := by omega
      have hti : l0.take i = l0 := List.take_of_length_le (by rw [HN.out]; omega)
      have hE : encP l0 = (strOfNums (runesZ l0), 0) := by
        unfold encP
        have := HV.out
        rw [hti] at this
        rw [if_pos this]
      replace hE := Aside0.mk hE
      have hW := HW.out
      rw [hti] at hW
      obtain ⟨A, c, hv⟩ := own_slice hW
      subst hv
      have hcv := own_string (P := Tryd.prog) (src := 27) (dst := 9) (e := 5) Tryd.underlying27 Tryd.underlying5 Tryd.underlying9 hW
      clear hW HW HV hti
      go_wp2_with fail
      go_ret2
      exact ⟨by rw [hE.out]; rfl, HB.out⟩
theorem utf_Encode.calls (A0 : Option Addr) (c0 : Nat) (l0 : List Int) (r1 : ByteArray) (r2 : Int) (w : World) (hr0 : Kd.C (Kd.int .i32) w A0 l0.length l0) (hc0 : l0.length ≤ c0) (h : utf_Encode.f l0 = some (r1, r2)) :
    Calls Tryd.prog 24 #[.slice A0 l0.length c0] w fun e w' => e = .returned (.tuple #[.string r1, .int .i64 r2]) ∧ Below w.heap.size w w' := by
  unfold utf_Encode.f at h
  split at h
  · next hl =>
    have h := Option.some.inj h
    have := encode_any A0 c0 l0 w hr0 hc0 hl.1 hl.2
    rw [h] at this
    exact this
  · cases h
end Go.Proofs.YtncbbgmhmofhnaaDoor.Pr
end

section
namespace Go.Proofs.YtncbbgmhmofhnaaDoor.Pr
set_option linter.unusedVariables false
set_option linter.unusedSimpArgs false

section
variable (cls : Int → Int)
/-- x goes behind what stands there, but ahead of those of a greater class. -/
def insR : List Int → Int → List Int
  | [], x => [x]
  | y :: t, x => if cls x ≠ 0 ∧ cls x < cls y then y :: insR t x else x :: y :: t
def ordR (acc l : List Int) : List Int := l.foldl (insR cls) acc
def ordM (l : List Int) : List Int := (ordR cls [] l).reverse
/-- v may stand right behind u. -/
def okN (u v : Int) : Prop := ¬ (cls v ≠ 0 ∧ cls v < cls u)
/-- Ordered: a row held with the last one first. -/
def SrtR : List Int → Prop
  | v :: u :: t => okN cls u v ∧ SrtR (u :: t)
  | _ => True
theorem insR_comm {a b : Int} (h0 : cls b ≠ 0) (h : cls b < cls a) (hp : ∀ x, 0 ≤ cls x) : ∀ o : List Int, insR cls (insR cls o a) b = insR cls (insR cls o b) a
  | [] => by
    simp only [insR, if_pos (show cls b ≠ 0 ∧ cls b < cls a from ⟨h0, h⟩), if_neg (show ¬ (cls a ≠ 0 ∧ cls a < cls b) by omega)]
  | y :: t => by
    have ih := insR_comm h0 h hp t
    by_cases c : cls a ≠ 0 ∧ cls a < cls y
    · have cb : cls b ≠ 0 ∧ cls b < cls y := ⟨h0, by omega⟩
      simp only [insR, if_pos c, if_pos cb, ih]
    · by_cases cb : cls b ≠ 0 ∧ cls b < cls y
      · simp only [insR, if_neg c, if_pos cb, if_pos (show cls b ≠ 0 ∧ cls b < cls a from ⟨h0, h⟩)]
      · simp only [insR, if_neg c, if_neg cb, if_pos (show cls b ≠ 0 ∧ cls b < cls a from ⟨h0, h⟩), if_neg (show ¬ (cls a ≠ 0 ∧ cls a < cls b) by omega)]
theorem ordR_app (acc x y : List Int) : ordR cls acc (x ++ y) = ordR cls (ordR cls acc x) y := List.foldl_append
theorem ordM_swap {a b : Int} (h0 : cls b ≠ 0) (h : cls b < cls a) (hp : ∀ x, 0 ≤ cls x) (x y : List Int) : ordM cls (x ++ a :: b :: y) = ordM cls (x ++ b :: a :: y) := by
  unfold ordM
  rw [ordR_app, ordR_app]
  show (ordR cls (insR cls (insR cls _ a) b) y).reverse = (ordR cls (insR cls (insR cls _ b) a) y).reverse
  rw [insR_comm cls h0 h hp]
theorem srt_tail : ∀ (s t : List Int), SrtR cls (s ++ t) → SrtR cls t
  | [], t, h => h
  | [z], [], h => trivial
  | [z], y :: t, h => h.2
  | z :: z2 :: s, t, h => srt_tail (z2 :: s) t h.2
theorem ordR_srt : ∀ (l acc : List Int), SrtR cls (l.reverse ++ acc) → ordR cls acc l = l.reverse ++ acc
  | [], acc, _ => rfl
  | x :: l, acc, h => by
    have e : (x :: l).reverse ++ acc = l.reverse ++ (x :: acc) := by simp
    rw [e] at h ⊢
    have hx : insR cls acc x = x :: acc := by
      have h2 : SrtR cls (x :: acc) := srt_tail cls l.reverse _ h
      cases acc with
      | nil => rfl
      | cons y t => unfold insR; rw [if_neg h2.1]
    show ordR cls (insR cls acc x) l = _
    rw [hx]
    exact ordR_srt l _ h
theorem ordM_srt (l : List Int) (h : SrtR cls l.reverse) : ordM cls l = l := by
  unfold ordM
  rw [ordR_srt cls l [] (by rw [List.append_nil]; exact h)]
  simp
theorem insR_perm (x : Int) : ∀ o : List Int, (insR cls o x).Perm (x :: o)
  | [] => List.Perm.refl _
  | y :: t => by
    unfold insR
    split
    · exact ((insR_perm x t).cons y).trans (List.Perm.swap x y t)
    · exact List.Perm.refl _
theorem ordR_perm : ∀ (l acc : List Int), (ordR cls acc l).Perm (l ++ acc)
  | [], acc => List.Perm.refl _
  | x :: l, acc => by
    refine (ordR_perm l (insR cls acc x)).trans ?_
    exact ((insR_perm cls x acc).append_left l).trans List.perm_middle
theorem ordM_perm (l : List Int) : (ordM cls l).Perm l := by
  unfold ordM
  refine (List.reverse_perm _).trans ?_
  have := ordR_perm cls l []
  rwa [List.append_nil] at this
end
end Go.Proofs.YtncbbgmhmofhnaaDoor.Pr
end

section
namespace Go.Proofs.YtncbbgmhmofhnaaDoor.Pr
open Go.RowKit Go.Proofs.YtncbbgmhmofhnaaDoorW.PrintWords Go.Proofs.YtncbbgmhmofhnaaDoorW.PrintLast Go.Proofs.YtncbbgmhmofhnaaDoorW.PrintMore
set_option linter.unusedVariables false
set_option linter.unusedSimpArgs false

def encR (x : Int) : Value := .int .i32 x
structure Win (w0 : World) (blk : Nat) (pre post : List Value) (d : List Int) (W : World) : Prop where
  turned : Turned (fun k => k = blk) w0 W
  row : W.heap[blk]? = some (.cells (pre ++ (d.map encR ++ post)).toArray 21 (0, 0))
theorem heap_setCell_row {W : World} {blk i : Nat} {cs : List Value} {t : TypeId} (v : Value) (h : W.heap[blk]? = some (.cells cs.toArray t (0, 0))) : (W.setCell ⟨blk, i, none⟩ v).heap[blk]? = some (.cells (cs.set i v).toArray t (0, 0)) := by
  obtain ⟨hlt, hk⟩ := Array.getElem?_eq_some_iff.1 h
  show (W.heap.modify blk _)[blk]? = _
  rw [Array.getElem?_eq_getElem (by rw [Array.size_modify]; exact hlt), Array.getElem_modify_self, hk]
  simp
section
variable {w0 W : World} {blk : Nat} {pre post : List Value} {d : List Int}
theorem Win.lt (h : Win w0 blk pre post d W) : blk < W.heap.size := (Array.getElem?_eq_some_iff.1 h.row).1
theorem Win.frozen (h : Win w0 blk pre post d W) (i : Nat) : W.frozen? ⟨blk, i, none⟩ = false := by
  simp [World.frozen?, h.row]
theorem Win.cell (h : Win w0 blk pre post d W) {i : Nat} {x : Int} (hi : d[i]? = some x) : W.cell? ⟨blk, pre.length + i, none⟩ = some (.int .i32 x) := by
  obtain ⟨hl, hx⟩ := List.getElem?_eq_some_iff.1 hi
  simp only [World.cell?, h.row]
  simp [List.getElem?_append, hl, hx, encR]
theorem Win.below (h : Win w0 blk pre post d W) {W' : World} (hb : Below W.heap.size W W') : Win w0 blk pre post d W' :=
  ⟨h.turned.trans (Turned.of_below _ hb), (hb.block _ h.lt).trans h.row⟩
theorem Win.drew (h : Win w0 blk pre post d W) : Win w0 blk pre post d W.drew := h.below (below_drew (Below.refl _ _))
theorem Win.set (h : Win w0 blk pre post d W) {i : Nat} (hi : i < d.length) (x : Int) : Win w0 blk pre post (d.set i x) (W.setCell ⟨blk, pre.length + i, none⟩ (.int .i32 x)) := by
  refine ⟨h.turned.trans (Turned.setCell _ _ _ rfl), ?_⟩
  rw [heap_setCell_row _ h.row]
  congr 2
  rw [List.set_append_right _ _ (by omega), Nat.add_sub_cancel_left, List.set_append_left _ _ (by simpa using hi), List.map_set]
  rfl
theorem Win.swap {L1 L2 L3 : List Int} {u v : Int} (h : Win w0 blk pre post (L1 ++ u :: (L2 ++ v :: L3)) W) :
    Win w0 blk pre post (L1 ++ v :: (L2 ++ u :: L3)) (((W.setCell ⟨blk, pre.length + L1.length, none⟩ (.int .i32 v)).setCell ⟨blk, pre.length + (L1.length + 1 + L2.length), none⟩ (.int .i32 u)).drew) := by
  have h1 := (h.set (i := L1.length) (by simp) v)
  rw [List.set_append_right _ _ (Nat.le_refl _), Nat.sub_self, List.set_cons_zero] at h1
  have h2 := (h1.set (i := L1.length + 1 + L2.length) (by simp; omega) u).drew
  rw [List.set_append_right _ _ (by omega), show L1.length + 1 + L2.length - L1.length = L2.length + 1 by omega, List.set_cons_succ, List.set_append_right _ _ (Nat.le_refl _), Nat.sub_self, List.set_cons_zero] at h2
  exact h2
theorem Win.swapL {L1 L2 L3 : List Int} {u v : Int} (h : Win w0 blk pre post (L1 ++ u :: (L2 ++ v :: L3)) W) :
    Win w0 blk pre post (L1 ++ v :: (L2 ++ u :: L3)) (((W.setCell ⟨blk, pre.length + (L1.length + 1 + L2.length), none⟩ (.int .i32 u)).setCell ⟨blk, pre.length + L1.length, none⟩ (.int .i32 v)).drew) := by
  have h1 := (h.set (i := L1.length + 1 + L2.length) (by simp; omega) u)
  rw [List.set_append_right _ _ (by omega), show L1.length + 1 + L2.length - L1.length = L2.length + 1 by omega, List.set_cons_succ, List.set_append_right _ _ (Nat.le_refl _), Nat.sub_self, List.set_cons_zero] at h1
  have h2 := (h1.set (i := L1.length) (by simp) v).drew
  rw [List.set_append_right _ _ (Nat.le_refl _), Nat.sub_self, List.set_cons_zero] at h2
  exact h2
theorem Win.there2 (h : Win w0 blk pre post d W) {i j : Nat} {x : Int} (hi : i < d.length) (hj : j < d.length) : ∃ u, (W.setCell ⟨blk, pre.length + i, none⟩ (.int .i32 x)).cell? ⟨blk, pre.length + j, none⟩ = some u := by
  have h1 := h.set hi x
  exact ⟨_, h1.cell (List.getElem?_eq_getElem (by simpa using hj))⟩
end
theorem get_at (L1 : List Int) (u : Int) (L2 : List Int) : (L1 ++ u :: L2)[L1.length]? = some u := by simp
theorem get_at2 (L1 : List Int) (u : Int) (L2 : List Int) (v : Int) (L3 : List Int) : (L1 ++ u :: (L2 ++ v :: L3))[L1.length + 1 + L2.length]? = some v := by
  rw [List.getElem?_append_right (by omega), show L1.length + 1 + L2.length - L1.length = L2.length + 1 by omega, List.getElem?_cons_succ, get_at]
set_option maxHeartbeats 1000000 in
theorem swapRange_any (w0 : World) (blk cap : Nat) (pre post : List Value) (X U Y V Z : List Int) (cb : Value) (hUV : U.length = V.length) (hn : (X ++ (U ++ (Y ++ (V ++ Z)))).length ≤ 1000000) (W : World) (h : Win w0 blk pre post (X ++ (U ++ (Y ++ (V ++ Z)))) W) :
    Calls Tryd.prog 93 #[.slice (some ⟨blk, pre.length, none⟩) (X ++ (U ++ (Y ++ (V ++ Z)))).length cap, .int .i64 (X.length : Int), .int .i64 ((X.length + U.length + Y.length : Nat) : Int), .int .i64 (U.length : Int), cb] W fun e w' => e = .returned (.tuple #[]) ∧ Win w0 blk pre post (X ++ (V ++ (Y ++ (U ++ Z)))) w' := by
  have mixed : Tryd.prog.follows .mixedOrders = true := by kernel_rfl
  obtain ⟨n, hnn⟩ : ∃ n, (X ++ (U ++ (Y ++ (V ++ Z)))).length = n := ⟨_, rfl⟩
  rw [hnn] at hn ⊢
  obtain ⟨o, ho⟩ : ∃ o, pre.length = o := ⟨_, rfl⟩
  rw [ho]
  have S0 := Aside0.mk h
  clear h
  go_enter Tryd.func93, Tryd.ntmps93
  go_wp2_with fail
  go_loopw [10] (fun vi wr => ∃ (U1 U2 V1 V2 : List Int), vi = .int .i64 (U1.length : Int) ∧ Aside0 (U = U1 ++ U2 ∧ V = V1 ++ V2 ∧ U1.length = V1.length) ∧ Aside0 (Win w0 blk pre post (X ++ (V1 ++ (U2 ++ (Y ++ (U1 ++ (V2 ++ Z)))))) wr)) (fun vi _ => U.length - (intOf vi).toNat)
  case atStart => exact ⟨[], U, [], V, rfl, ⟨rfl, rfl, rfl⟩, S0⟩
  case round =>
    clear S0
    obtain ⟨U1, U2, V1, V2, rfl, HE, S1⟩ := hrel
    obtain ⟨hU, hV, hl⟩ := HE.out
    cases U2 with
    | nil =>
      obtain rfl : V2 = [] := by
        have h1 : V.length = V1.length + V2.length := by rw [hV]; simp
        have h2 : U.length = U1.length := by rw [hU]; simp
        exact List.length_eq_zero_iff.1 (by omega)
      have hd : decide ((U1.length : Int) < (U.length : Int)) = false := decide_eq_false (by rw [hU]; simp)
      have hd2 : decide (U1.length < U.length) = false := decide_eq_false (by rw [hU]; simp)
      simp only [List.append_nil] at hU hV
      subst hU hV
      clear HE
      go_wp2_with fail
      go_end0
      exact ⟨rfl, S1.out⟩
    | cons u U2 =>
      cases V2 with
      | nil =>
        have h1 : V.length = V1.length := by rw [hV]; simp
        have h2 : U.length = U1.length + (U2.length + 1) := by rw [hU]; simp
        omega
      | cons v V2 =>
        obtain ⟨p1, hp1⟩ : ∃ p, p = X.length + U1.length := ⟨_, rfl⟩
        obtain ⟨p2, hp2⟩ : ∃ p, p = X.length + U.length + Y.length + U1.length := ⟨_, rfl⟩
        have hW : Win w0 blk pre post ((X ++ V1) ++ u :: ((U2 ++ (Y ++ U1)) ++ v :: (V2 ++ Z))) wr := by have := S1.out; simpa using this
        have q1 : (X ++ V1).length = p1 := by simp; omega
        have q2 : (X ++ V1).length + 1 + (U2 ++ (Y ++ U1)).length = p2 := by rw [hp2, hU]; simp only [List.length_append, List.length_cons]; omega
        have hp1n : p1 < n := by rw [← hnn, hp1, hU]; simp only [List.length_append, List.length_cons, List.length_nil]; omega
        have hp2n : p2 < n := by rw [← hnn, hp2, hU, hV]; simp; omega
        have c1 := hW.cell (get_at _ _ _)
        have c2 := hW.cell (get_at2 _ _ _ _ _)
        have hT := hW.swap
        have c3 := hW.there2 (i := (X ++ V1).length) (j := (X ++ V1).length + 1 + (U2 ++ (Y ++ U1)).length) (x := v) (by simp only [List.length_append, List.length_cons, List.length_nil]; omega) (by simp only [List.length_append, List.length_cons, List.length_nil]; omega)
        rw [q2, q1] at hT c3
        rw [q1] at c1
        rw [q2] at c2
        rw [ho] at c1 c2 c3 hT
        obtain ⟨z, c3⟩ := c3
        have f1 := hW.frozen (o + p1)
        have f2 := hW.frozen (o + p2)
        have S2 : Aside0 (Win w0 blk pre post (X ++ (V1 ++ v :: (U2 ++ (Y ++ (U1 ++ u :: (V2 ++ Z)))))) _) := ⟨by have := hT; simpa using this⟩
        have e1 : ((X.length : Int) + (U1.length : Int)).toNat = p1 := by omega
        have e2 : ((X.length : Int) + (U.length : Int) + (Y.length : Int) + (U1.length : Int)).toNat = p2 := by omega
        have g1 : (X.length : Int) + (U1.length : Int) < (n : Int) := by omega
        have g2 : (X.length : Int) + (U.length : Int) + (Y.length : Int) + (U1.length : Int) < (n : Int) := by omega
        have hd : decide ((U1.length : Int) < (U.length : Int)) = true := decide_eq_true (by rw [hU]; simp <;> omega)
        have hd2 : decide (U1.length < U.length) = true := decide_eq_true (by rw [hU]; simp)
        have hm : U1.length + 1 ≤ U.length := by rw [hU]; simp
        have r1 : IntKind.i64.wrap ((X.length : Int) + (U1.length : Int)) = (X.length : Int) + (U1.length : Int) := by rw [IntKind.wrap_i64]; omega
        have r2 : IntKind.i64.wrap ((X.length : Int) + (U.length : Int) + (Y.length : Int) + (U1.length : Int)) = (X.length : Int) + (U.length : Int) + (Y.length : Int) + (U1.length : Int) := by rw [IntKind.wrap_i64]; omega
        have HE2 : Aside0 (U = (U1 ++ [u]) ++ U2 ∧ V = (V1 ++ [v]) ++ V2 ∧ (U1 ++ [u]).length = (V1 ++ [v]).length) := ⟨by rw [hU]; simp, by rw [hV]; simp, by simp [hl]⟩
        clear hT hW q1 q2 hp1 hp2 hU hV hl HE S1 hUV hnn ho
        go_wp2_with fail
        go_big_region_o
        clear c1 c2 c3 f1 f2 e1 e2
        generalize ((wr.setCell ⟨blk, o + p1, none⟩ (.int .i32 v)).setCell ⟨blk, o + p2, none⟩ (.int .i32 u)).drew = w3 at S2 ⊢
        go_wp2_with fail
        go_roundw
        case rel => exact ⟨U1 ++ [u], U2, V1 ++ [v], V2, by simp, HE2, ⟨by have := S2.out; simpa using this⟩⟩
        case measure => simp [intOf]; omega

set_option maxHeartbeats 1000000 in
theorem rotate_any (w0 : World) (blk cap : Nat) (pre post : List Value) (X A B Y : List Int) (cb : Value) (hA : 0 < A.length) (hB : 0 < B.length) (hn : (X ++ (A ++ (B ++ Y))).length ≤ 1000000) (W : World) (h : Win w0 blk pre post (X ++ (A ++ (B ++ Y))) W) :
    Calls Tryd.prog 92 #[.slice (some ⟨blk, pre.length, none⟩) (X ++ (A ++ (B ++ Y))).length cap, .int .i64 (X.length : Int), .int .i64 ((X.length + A.length : Nat) : Int), .int .i64 ((X.length + A.length + B.length : Nat) : Int), cb] W fun e w' => e = .returned (.tuple #[]) ∧ Win w0 blk pre post (X ++ (B ++ (A ++ Y))) w' := by
  obtain ⟨n, hnn⟩ : ∃ n, (X ++ (A ++ (B ++ Y))).length = n := ⟨_, rfl⟩
  obtain ⟨o, ho⟩ : ∃ o, pre.length = o := ⟨_, rfl⟩
  obtain ⟨m, hm⟩ : ∃ m, m = X.length + A.length := ⟨_, rfl⟩
  have hbm : ((X.length + A.length + B.length : Nat) : Int) - (m : Int) = (B.length : Int) := by omega
  have ham : (m : Int) - (X.length : Int) = (A.length : Int) := by omega
  rw [hnn, ho, ← hm]
  rw [← hm] at hbm
  have HM := Aside0.mk hm
  have HN := Aside0.mk hnn
  have HO := Aside0.mk ho
  rw [hnn] at hn
  have hmn : m + B.length ≤ n := by rw [← hnn, hm]; simp only [List.length_append]; omega
  have S0 := Aside0.mk h
  have HA := Aside0.mk hA
  have HB := Aside0.mk hB
  clear h hA hB hm hnn ho
  go_enter Tryd.func92, Tryd.ntmps92
  go_wp2_with (first | simp only [hbm, ham])
  go_loopw [10, 11] (fun vi vj wr => ∃ (X1 P Q Y1 : List Int), vi = .int .i64 (P.length : Int) ∧ vj = .int .i64 (Q.length : Int) ∧ Aside0 (0 < P.length) ∧ Aside0 (0 < Q.length) ∧ X1.length + P.length = m ∧ m + Q.length ≤ n ∧ Aside0 (X1 ++ (Q ++ (P ++ Y1)) = X ++ (B ++ (A ++ Y))) ∧ Aside0 (Win w0 blk pre post (X1 ++ (P ++ (Q ++ Y1))) wr)) (fun vi vj _ => (intOf vi).toNat + (intOf vj).toNat)
  case atStart => exact ⟨X, A, B, Y, by congr 1, by congr 1, HA, HB, HM.out.symm, hmn, ⟨rfl⟩, S0⟩
  case round =>
    clear S0 HA HB hbm ham HM hmn
    obtain ⟨X1, P, Q, Y1, rfl, rfl, HP, HQ, hx, hqn, HE, S1⟩ := hrel
    have hlen : (X1 ++ (P ++ (Q ++ Y1))).length = n := by
      have h1 := congrArg List.length HE.out
      have h2 := HN.out
      simp only [List.length_append] at h1 h2 ⊢
      omega
    have HLn := Aside0.mk hlen
    clear hlen
    by_cases hij : P.length = Q.length
    · have hc : Calls Tryd.prog 93 #[.slice (some ⟨blk, o, none⟩) n cap, .int .i64 (X1.length : Int), .int .i64 (m : Int), .int .i64 (P.length : Int), cb] wr fun e w' => e = .returned (.tuple #[]) ∧ Win w0 blk pre post (X1 ++ (Q ++ (P ++ Y1))) w' := by
        have := swapRange_any w0 blk cap pre post X1 P [] Q Y1 cb hij (by simpa [HLn.out] using hn) wr (by simpa using S1.out)
        simp only [List.nil_append, List.length_nil, Nat.add_zero, hx, HO.out, HLn.out] at this
        exact this
      rw [HE.out] at hc
      have hb : ((P.length : Int) == (Q.length : Int)) = true := beq_iff_eq.2 (by omega)
      have hs : (m : Int) - (P.length : Int) = (X1.length : Int) := by omega
      replace hc := Aside0.mk hc
      clear HE HN HLn S1 HP HQ HO hij hx
      go_wp2_with (first | simp only [hs] | (go_at_call 93; (with_reducible refine hc.out.mono ?_); rintro e w' ⟨rfl, hw⟩))
      go_end0
      exact ⟨rfl, hw⟩
    · have hb : ((P.length : Int) == (Q.length : Int)) = false := beq_eq_false_iff_ne.2 (by omega)
      have hs : (m : Int) - (P.length : Int) = (X1.length : Int) := by omega
      by_cases hlt : Q.length < P.length
      · obtain ⟨P1, P2, hP, hP1⟩ : ∃ P1 P2, P = P1 ++ P2 ∧ P1.length = Q.length := ⟨P.take Q.length, P.drop Q.length, (List.take_append_drop _ _).symm, by simp; omega⟩
        have hlP : P.length = P1.length + P2.length := by rw [hP]; simp
        have hc : Calls Tryd.prog 93 #[.slice (some ⟨blk, o, none⟩) n cap, .int .i64 (X1.length : Int), .int .i64 (m : Int), .int .i64 (Q.length : Int), cb] wr fun e w' => e = .returned (.tuple #[]) ∧ Aside0 (Win w0 blk pre post ((X1 ++ Q) ++ (P2 ++ (P1 ++ Y1))) w') := by
          have h1 := HLn.out
          have h2 := S1.out
          rw [hP] at h1 h2
          rw [List.append_assoc] at h1 h2
          have := swapRange_any w0 blk cap pre post X1 P1 P2 Q Y1 cb hP1 (by rw [h1]; exact hn) wr h2
          rw [h1, HO.out, hP1, show X1.length + Q.length + P2.length = m by omega] at this
          refine this.mono fun e w' hh => ⟨hh.1, ⟨by rw [List.append_assoc]; exact hh.2⟩⟩
        have hd : decide ((P.length : Int) > (Q.length : Int)) = true := decide_eq_true (by omega)
        have hpq : (P.length : Int) - (Q.length : Int) = (P2.length : Int) := by omega
        replace hc := Aside0.mk hc
        have HE2 : Aside0 ((X1 ++ Q) ++ (P1 ++ (P2 ++ Y1)) = X ++ (B ++ (A ++ Y))) := ⟨by rw [← HE.out, hP]; simp⟩
        have HX2 : Aside0 ((X1 ++ Q).length + P2.length = m ∧ m + P1.length ≤ n ∧ 0 < P2.length ∧ 0 < P1.length) := ⟨by simp only [List.length_append]; have := HQ.out; omega⟩
        have hP1z : (Q.length : Int) = (P1.length : Int) := by omega
        have hms : P2.length + P1.length < P.length + Q.length := by have := HQ.out; omega
        replace hP1z := Aside0.mk hP1z
        clear HE HN HLn S1 HP HQ HO hij hP hP1 hlP hx
        go_wp2_with (first | simp only [hs, hpq] | (go_at_call 93; (with_reducible refine hc.out.mono ?_); rintro e w' ⟨rfl, hw⟩))
        go_roundw
        case rel => exact ⟨X1 ++ Q, P2, P1, Y1, by rfl, by rw [hP1z.out], ⟨HX2.out.2.2.1⟩, ⟨HX2.out.2.2.2⟩, HX2.out.1, HX2.out.2.1, HE2, hw⟩
        case measure => simp [intOf]; have := hP1z.out; omega
      · obtain ⟨Q1, Q2, hQ, hQ2⟩ : ∃ Q1 Q2, Q = Q1 ++ Q2 ∧ Q2.length = P.length := ⟨Q.take (Q.length - P.length), Q.drop (Q.length - P.length), (List.take_append_drop _ _).symm, by simp; omega⟩
        have hlQ : Q.length = Q1.length + Q2.length := by rw [hQ]; simp
        have hc : Calls Tryd.prog 93 #[.slice (some ⟨blk, o, none⟩) n cap, .int .i64 (X1.length : Int), .int .i64 ((m : Int) + (Q1.length : Int)), .int .i64 (P.length : Int), cb] wr fun e w' => e = .returned (.tuple #[]) ∧ Aside0 (Win w0 blk pre post (X1 ++ (Q2 ++ (Q1 ++ (P ++ Y1)))) w') := by
          have h1 := HLn.out
          have h2 := S1.out
          rw [hQ] at h1 h2
          rw [List.append_assoc Q1] at h1 h2
          have := swapRange_any w0 blk cap pre post X1 P Q1 Q2 Y1 cb hQ2.symm (by rw [h1]; exact hn) wr h2
          rw [h1, HO.out, hx, Int.natCast_add] at this
          exact this.mono fun e w' hh => ⟨hh.1, ⟨hh.2⟩⟩
        have hd : decide ((P.length : Int) > (Q.length : Int)) = false := decide_eq_false (by omega)
        have hpq : (Q.length : Int) - (P.length : Int) = (Q1.length : Int) := by omega
        have hmq : (m : Int) + (Q.length : Int) - (P.length : Int) = (m : Int) + (Q1.length : Int) := by omega
        replace hc := Aside0.mk hc
        have HE2 : Aside0 (X1 ++ (Q1 ++ (Q2 ++ (P ++ Y1))) = X ++ (B ++ (A ++ Y))) := ⟨by rw [← HE.out, hQ]; simp⟩
        have HX2 : Aside0 (X1.length + Q2.length = m ∧ m + Q1.length ≤ n ∧ 0 < Q2.length ∧ 0 < Q1.length) := ⟨by have := HP.out; omega⟩
        have hms : P.length + Q1.length < P.length + Q.length := by have := HP.out; omega
        have hQ2z : Aside0 ((P.length : Int) = (Q2.length : Int)) := ⟨by omega⟩
        clear HE HN HLn S1 HP HQ HO hij hQ hQ2 hlQ hx
        go_wp2_with (first | simp only [hs, hpq, hmq] | (go_at_call 93; (with_reducible refine hc.out.mono ?_); rintro e w' ⟨rfl, hw⟩))
        go_roundw
        case rel => exact ⟨X1, Q2, Q1, P ++ Y1, by rw [hQ2z.out], by rfl, ⟨HX2.out.2.2.1⟩, ⟨HX2.out.2.2.2⟩, HX2.out.1, HX2.out.2.1, HE2, hw⟩
        case measure => simp [intOf]; omega
end Go.Proofs.YtncbbgmhmofhnaaDoor.Pr
end

section
namespace Go.Proofs.YtncbbgmhmofhnaaDoor.Pr
open Go.RowKit Go.Proofs.YtncbbgmhmofhnaaDoorW.PrintWords Go.Proofs.YtncbbgmhmofhnaaDoorW.PrintLast Go.Proofs.YtncbbgmhmofhnaaDoorW.PrintMore
set_option linter.unusedVariables false
set_option linter.unusedSimpArgs false

def clsU (x : Int) : Int := (findU x).f5
theorem clsU_f (x : Int) : unidata_Class.f x = some (clsU x) := rfl
theorem clsU_pos (x : Int) : 0 ≤ clsU x := by
  have h : ∀ y ∈ uT0 ++ uT1 ++ uT2, 0 ≤ y.f5 := by decide +kernel
  unfold clsU findU
  cases e : (uT0 ++ uT1 ++ uT2).find? (inU x) with
  | none => exact Int.le_refl _
  | some y => exact h y (List.mem_of_find?_eq_some e)
theorem class_any (x : Int) (W : World) : Calls Tryd.prog 60 #[.int .i32 x] W fun e w' => e = .returned (.int .u8 (clsU x)) ∧ Below W.heap.size W w' := unidata_Class.calls x _ W (clsU_f x)
theorem isNaN8 (x : Int) (W : World) : Calls Tryd.prog 76 #[.int .u8 x] W fun e w' => e = .returned (.bool false) ∧ w' = W := by
  go_enter Tryd.func76, Tryd.ntmps76
  go_wp2_with fail
  go_ret
  exact ⟨by simp, rfl⟩
theorem compare8 (x y : Int) (W : World) : Calls Tryd.prog 63 #[.int .u8 x, .int .u8 y] W fun e w' => e = .returned (.int .i64 (if x < y then -1 else if y < x then 1 else 0)) ∧ w' = W := by
  by_cases h1 : x < y
  · have h1b : decide (x < y) = true := decide_eq_true h1
    rw [if_pos h1]
    clear h1
    go_enter Tryd.func63, Tryd.ntmps63
    go_wp2_with (go_at_call 76; refine (isNaN8 _ _).mono ?_; rintro e w' ⟨rfl, rfl⟩)
    go_ret
    exact ⟨rfl, rfl⟩
  · have h1b : decide (x < y) = false := decide_eq_false h1
    rw [if_neg h1]
    by_cases h2 : y < x
    · have h2b : decide (y < x) = true := decide_eq_true h2
      rw [if_pos h2]
      clear h1 h2
      go_enter Tryd.func63, Tryd.ntmps63
      go_wp2_with (go_at_call 76; refine (isNaN8 _ _).mono ?_; rintro e w' ⟨rfl, rfl⟩)
      go_ret
      exact ⟨rfl, rfl⟩
    · have h2b : decide (y < x) = false := decide_eq_false h2
      rw [if_neg h2]
      clear h1 h2
      go_enter Tryd.func63, Tryd.ntmps63
      go_wp2_with (go_at_call 76; refine (isNaN8 _ _).mono ?_; rintro e w' ⟨rfl, rfl⟩)
      go_ret
      exact ⟨rfl, rfl⟩
def cfO (x y : Int) : Int := if clsU x < clsU y then -1 else if clsU y < clsU x then 1 else 0
theorem cfO_lt (x y : Int) : cfO x y < 0 ↔ clsU x < clsU y := by
  unfold cfO
  split
  · simp [*]
  · split <;> simp [*]
theorem ordcmp (x y : Int) (W : World) : Calls Tryd.prog 62 #[.int .i32 x, .int .i32 y] W fun e w' => e = .returned (.int .i64 (cfO x y)) ∧ Below W.heap.size W w' := by
  have hcon := fun W' => compare8 (clsU x) (clsU y) W'
  have HX := class_any x
  have HY := class_any y
  unfold cfO
  generalize (if clsU x < clsU y then (-1 : Int) else if clsU y < clsU x then 1 else 0) = r at hcon ⊢
  generalize clsU x = cx at HX hcon
  generalize clsU y = cy at HY hcon
  have HB := Aside0.mk (Below.refl W.heap.size W)
  go_enter Tryd.func62, Tryd.ntmps62
  go_wp2_with (first | (go_at_call 60; (with_reducible refine (HX _).mono ?_); rintro e w' ⟨rfl, hb⟩; replace HB := Aside0.mk (below_step HB.out hb); clear hb) | (go_at_call 60; (with_reducible refine (HY _).mono ?_); rintro e w' ⟨rfl, hb⟩; replace HB := Aside0.mk (below_step HB.out hb); clear hb) | (go_at_call 63; (with_reducible refine (hcon _).mono ?_); rintro e w' ⟨rfl, rfl⟩))
  go_ret
  exact ⟨rfl, HB.out⟩

def So (l l' : List Int) : Prop := ∀ x y, ordM clsU (x ++ (l ++ y)) = ordM clsU (x ++ (l' ++ y))
theorem So.refl (l : List Int) : So l l := fun _ _ => rfl
theorem So.trans {a b c : List Int} (h : So a b) (k : So b c) : So a c := fun x y => (h x y).trans (k x y)
theorem So.app {l l' : List Int} (h : So l l') (a b : List Int) : So (a ++ (l ++ b)) (a ++ (l' ++ b)) := fun x y => by
  have := h (x ++ a) (b ++ y)
  simpa using this
theorem So.right {l l' : List Int} (h : So l l') (b : List Int) : So (l ++ b) (l' ++ b) := h.app [] b
theorem So.left {l l' : List Int} (h : So l l') (a : List Int) : So (a ++ l) (a ++ l') := by
  have := h.app a []
  simpa using this
theorem So.swap {a b : Int} (h0 : clsU b ≠ 0) (h : clsU b < clsU a) : So [a, b] [b, a] := fun x y => ordM_swap clsU h0 h clsU_pos x y
theorem So.move {x : Int} (h0 : clsU x ≠ 0) : ∀ {S : List Int}, (∀ s ∈ S, clsU x < clsU s) → So (S ++ [x]) (x :: S)
  | [], _ => So.refl _
  | s :: S, h => by
    have h1 := (So.move h0 (S := S) (fun t ht => h t (List.mem_cons_of_mem _ ht))).left [s]
    have h2 := (So.swap h0 (h s List.mem_cons_self)).right S
    exact So.trans h1 h2
theorem So.rot : ∀ {A B : List Int}, (∀ b ∈ B, clsU b ≠ 0) → (∀ a ∈ A, ∀ b ∈ B, clsU b < clsU a) → So (A ++ B) (B ++ A)
  | A, [], _, _ => by simpa using So.refl A
  | A, b :: B, h0, h => by
    have h1 := (So.move (h0 b List.mem_cons_self) (S := A) (fun s hs => h s hs b List.mem_cons_self)).right B
    have h2 := (So.rot (A := A) (B := B) (fun c hc => h0 c (List.mem_cons_of_mem _ hc)) (fun a ha c hc => h a ha c (List.mem_cons_of_mem _ hc))).left [b]
    have h3 : (A ++ [b]) ++ B = A ++ (b :: B) := by simp
    rw [h3] at h1
    exact So.trans h1 h2
def Srt (l : List Int) : Prop := l.Pairwise fun x y => clsU x ≤ clsU y
def Nz (l : List Int) : Prop := ∀ x ∈ l, clsU x ≠ 0
/-- C is A, sorted. -/
structure Stb (A C : List Int) : Prop where
  so : So A C
  perm : C.Perm A
  srt : Srt C
theorem Stb.len {A C : List Int} (h : Stb A C) : C.length = A.length := h.perm.length_eq
theorem Stb.nz {A C : List Int} (h : Stb A C) (hz : Nz A) : Nz C := fun x hx => hz x (h.perm.mem_iff.1 hx)

structure RS (W0 : World) (p q : Addr) (x y : Int) (W : World) : Prop where
  bel : Below W0.heap.size W0 W
  c1 : W.cell? p = some (.int .i32 x)
  c2 : W.cell? q = some (.int .i32 y)
theorem RS.facts {W0 W : World} {p q : Addr} {x y : Int} (h : RS W0 p q x y W) : W.cell? p = some (.int .i32 x) ∧ W.cell? q = some (.int .i32 y) ∧ RS W0 p q x y W := ⟨h.c1, h.c2, h⟩
theorem RS.of {W0 W : World} {p q : Addr} {x y : Int} (h : W.cell? p = some (.int .i32 x) ∧ W.cell? q = some (.int .i32 y) ∧ RS W0 p q x y W) : RS W0 p q x y W := h.2.2
theorem RS.keep {W0 W W1 : World} {p q : Addr} {x y : Int} (h : RS W0 p q x y W) (hb : Below W.heap.size W W1) : RS W0 p q x y W1 := ⟨below_step h.bel hb, pw_cell_below hb h.c1, pw_cell_below hb h.c2⟩
theorem RS.start {W : World} {p q : Addr} {x y : Int} (h1 : W.cell? p = some (.int .i32 x)) (h2 : W.cell? q = some (.int .i32 y)) : RS W p q x y W.drew := ⟨below_drew (Below.refl _ _), h1, h2⟩

set_option maxHeartbeats 1000000 in
theorem insertion_any (w0 : World) (blk cap : Nat) (pre post : List Value) (X A Y : List Int) (hz : Nz A) (hn : (X ++ (A ++ Y)).length ≤ 1000000) (W : World) (h : Win w0 blk pre post (X ++ (A ++ Y)) W) :
    Calls Tryd.prog 89 #[.slice (some ⟨blk, pre.length, none⟩) (X ++ (A ++ Y)).length cap, .int .i64 (X.length : Int), .int .i64 ((X.length + A.length : Nat) : Int), .func (.func 62) #[] #[]] W fun e w' => e = .returned (.tuple #[]) ∧ ∃ C, Stb A C ∧ Win w0 blk pre post (X ++ (C ++ Y)) w' := by
  have mixed : Tryd.prog.follows .mixedOrders = true := by kernel_rfl
  obtain ⟨n, hnn⟩ : ∃ n, (X ++ (A ++ Y)).length = n := ⟨_, rfl⟩
  obtain ⟨o, ho⟩ : ∃ o, pre.length = o := ⟨_, rfl⟩
  obtain ⟨a, ha⟩ : ∃ a, X.length = a := ⟨_, rfl⟩
  obtain ⟨b, hb⟩ : ∃ b, a + A.length = b := ⟨_, rfl⟩
  rw [hnn] at hn
  rw [hnn, ho, ha, hb]
  have hbn : b ≤ n := by rw [← hb, ← ha, ← hnn]; simp only [List.length_append]; omega
  have HF := Aside0.mk hnn
  have HO := Aside0.mk ho
  have HA := Aside0.mk ha
  have HB := Aside0.mk hb
  have S0 := Aside0.mk h
  have hab : a ≤ b := by omega
  clear h hnn ho ha hb
  go_enter Tryd.func89, Tryd.ntmps89
  go_wp2_with fail
  go_loopg [8] (b - a) (fun g1 vi wr => ∃ (i : Nat) (S T : List Int), vi = .int .i64 i ∧ i ≤ b + 1 ∧ Aside0 (b ≤ i + g1) ∧ Aside0 (i = a + max S.length 1 ∧ (S = [] → T = []) ∧ S.length + T.length = A.length) ∧ Aside0 (So A (S ++ T) ∧ (S ++ T).Perm A ∧ Srt S) ∧ Aside0 (Win w0 blk pre post (X ++ ((S ++ T) ++ Y)) wr))
  case atStart =>
    cases A with
    | nil => exact ⟨a + 1, [], [], by rfl, by omega, ⟨by omega⟩, ⟨by simp, fun _ => rfl, rfl⟩, ⟨So.refl _, .refl _, List.Pairwise.nil⟩, S0⟩
    | cons x T => exact ⟨a + 1, [x], T, by rfl, by omega, ⟨by omega⟩, ⟨by simp, fun h => by simp at h, by simp; omega⟩, ⟨So.refl _, .refl _, List.pairwise_singleton _ _⟩, S0⟩
  case round =>
    clear S0
    obtain ⟨i, S, T, rfl, hib, HG, HI, HS, S1⟩ := hrel
    cases T with
    | nil =>
      have hd : decide ((i : Int) < (b : Int)) = false := decide_eq_false (by have h1 := HI.out; have h2 := HB.out; simp only [List.length_nil] at h1; omega)
      have hd2 : decide (i < b) = false := decide_eq_false (by have h1 := HI.out; have h2 := HB.out; simp only [List.length_nil] at h1; omega)
      go_wp2_with fail
      go_end0
      obtain ⟨h1, h2, h3⟩ := HS.out
      rw [List.append_nil] at h1 h2
      exact ⟨rfl, S, ⟨h1, h2, h3⟩, by have := S1.out; simpa using this⟩
    | cons x T =>
      have hS1 : 1 ≤ S.length := by
        have := HI.out.2.1
        cases S with
        | nil => simp at this
        | cons _ _ => simp
      have hiv : Aside0 (i = a + S.length) := ⟨by have := HI.out.1; omega⟩
      have hlt : i < b := by have hiv := hiv.out; have h1 := HI.out.2.2; have h2 := HB.out; simp only [List.length_cons] at h1; omega
      have hd : decide ((i : Int) < (b : Int)) = true := decide_eq_true (by omega)
      have hd2 : decide (i < b) = true := decide_eq_true hlt
      have hxz : clsU x ≠ 0 := hz x (HS.out.2.1.mem_iff.1 (by simp))
      go_wp2_with fail
      go_loopg [9] (i - a) (fun g2 vj wr2 => ∃ (j : Nat) (P Q : List Int), vj = .int .i64 j ∧ j ≤ i ∧ Aside0 (j = a + P.length ∧ P.length ≤ g2) ∧ Aside0 (S = P ++ Q ∧ ∀ s ∈ Q, clsU x < clsU s) ∧ Aside0 (Win w0 blk pre post (X ++ ((P ++ x :: (Q ++ T)) ++ Y)) wr2))
      case atStart => exact ⟨i, S, [], rfl, Nat.le_refl _, ⟨hiv.out, by have := hiv.out; omega⟩, ⟨by simp, fun _ h => by simp at h⟩, ⟨by have := S1.out; simpa using this⟩⟩
      case round =>
        clear S1
        obtain ⟨j, P, Q, rfl, hji, HJ, HQ, S2⟩ := hrel
        -- where the walk leaves the inner loop
        have out : (∀ s ∈ P, clsU s ≤ clsU x) → ∃ S', Aside0 (i + 1 = a + max S'.length 1 ∧ (S' = [] → T = []) ∧ S'.length + T.length = A.length) ∧ Aside0 (So A (S' ++ T) ∧ (S' ++ T).Perm A ∧ Srt S') ∧ Aside0 (Win w0 blk pre post (X ++ ((S' ++ T) ++ Y)) wr) := fun hP => by
          have hiv := hiv.out
          obtain ⟨hSP, hQx⟩ := HQ.out
          obtain ⟨h1, h2, h3⟩ := HS.out
          have hm : So (S ++ x :: T) ((P ++ x :: Q) ++ T) := by
            have := (So.move hxz hQx).app P T
            rw [hSP]
            simpa using this
          have hpm : ((P ++ x :: Q) ++ T).Perm (S ++ x :: T) := by
            rw [hSP, List.append_assoc, List.append_assoc]
            refine List.Perm.append_left P ?_
            exact (List.perm_middle (l₁ := Q) (l₂ := T) (a := x)).symm
          refine ⟨P ++ x :: Q, ⟨?_, fun hh => by simp at hh, ?_⟩, ⟨So.trans h1 hm, hpm.trans h2, ?_⟩, ⟨by have := S2.out; simpa using this⟩⟩
          · rw [hSP] at hiv; simp only [List.length_append, List.length_cons] at hiv ⊢; omega
          · have h4 := HI.out.2.2; rw [hSP] at h4; simp only [List.length_append, List.length_cons] at h4 ⊢; omega
          · rw [hSP] at h3
            obtain ⟨p1, p2, p3⟩ := List.pairwise_append.1 h3
            refine List.pairwise_append.2 ⟨p1, List.pairwise_cons.2 ⟨fun s hs => Int.le_of_lt (hQx s hs), p2⟩, fun u hu v hv => ?_⟩
            rcases List.mem_cons.1 hv with rfl | hv
            · exact hP u hu
            · exact p3 u hu v hv
        have OUT := Aside0.mk out
        clear out
        rcases List.eq_nil_or_concat P with rfl | ⟨P, s, rfl⟩
        · -- the row's beginning
          have hj : j = a := by have := HJ.out.1; simpa using this
          subst hj
          have OUT2 := Aside0.mk (OUT.out (fun _ h => by simp at h))
          clear OUT HI HS HQ HJ S2 hS1 hiv
          have hd3 : decide ((j : Int) > (j : Int)) = false := decide_eq_false (by omega)
          go_wp2_with fail
          go_big_region_o
          obtain ⟨S', G1, G2, G3⟩ := OUT2.out
          replace G3 := Aside0.mk G3.out.drew
          clear OUT2
          generalize wr.drew = w4 at G3 ⊢
          go_wp2_with fail
          go_roundg (b - (i + 1))
          case measure => have := HG.out; omega
          case rel => exact ⟨i + 1, S', T, by go_num, by omega, ⟨by omega⟩, G1, G2, G3⟩
        · rw [List.concat_eq_append] at HQ HJ S2 OUT
          obtain ⟨p, hp⟩ : ∃ p, p = a + P.length := ⟨_, rfl⟩
          obtain ⟨g2', rfl⟩ : ∃ g, gk = g + 1 := ⟨gk - 1, by have := HJ.out.2; simp only [List.length_append, List.length_cons] at this; omega⟩
          obtain rfl : j = p + 1 := by have := HJ.out.1; simp only [List.length_append, List.length_cons, List.length_nil] at this; omega
          have hW : Win w0 blk pre post ((X ++ P) ++ s :: ([] ++ x :: (Q ++ (T ++ Y)))) wr := by have := S2.out; simpa using this
          have q1 : (X ++ P).length = p := by rw [List.length_append, HA.out, hp]
          have q2 : (X ++ P).length + 1 + ([] : List Int).length = p + 1 := by rw [q1]; rfl
          have c1 := hW.cell (get_at _ _ _)
          have c2 := hW.cell (get_at2 _ _ _ _ _)
          rw [q1, HO.out] at c1
          rw [q2, HO.out] at c2
          have hd3 : decide ((p : Int) + 1 > (a : Int)) = true := decide_eq_true (by omega)
          have hap : (a : Int) < (p : Int) + 1 := by omega
          have hpn : p + 1 < n := by omega
          have e1 : ((p : Int) + 1).toNat = p + 1 := by omega
          have e2 : (0 : Int) ≤ (p : Int) + 1 := by omega
          have e3 : (p : Int) + 1 < (n : Int) := by omega
          have e4 : (p : Int) < (n : Int) := by omega
          have e5 : (0 : Int) ≤ (p : Int) := by omega
          have r1 : IntKind.i64.wrap ((p : Int) + 1) = (p : Int) + 1 := by rw [IntKind.wrap_i64]; omega
          have r2 : IntKind.i64.wrap (p : Int) = (p : Int) := by rw [IntKind.wrap_i64]; omega
          have HP2 := Aside0.mk hp
          have Q1 := Aside0.mk q1
          have Q2 := Aside0.mk q2
          have HW := Aside0.mk hW
          clear hp q1 q2 hW S2
          by_cases hc : clsU x < clsU s
          · have hcf : decide (cfO x s < 0) = true := decide_eq_true ((cfO_lt x s).2 hc)
            have hcf2 : cfO x s < 0 := (cfO_lt x s).2 hc
            have HC := Aside0.mk hc
            clear OUT hc
            go_wp2_with fail
            go_region_held3 (fun w' => w'.cell? ⟨blk, o + (p + 1), none⟩ = some (.int .i32 x) ∧ w'.cell? ⟨blk, o + p, none⟩ = some (.int .i32 s) ∧ RS wr ⟨blk, o + (p + 1), none⟩ ⟨blk, o + p, none⟩ x s w') (first | exact RS.facts (RS.start c2 c1) | exact RS.facts (by assumption)) (first | (go_at_call 62; (with_reducible refine (ordcmp _ _ _).mono ?_); rintro e w9 ⟨rfl, hb9⟩; have hx9 := RS.keep (RS.of (by assumption)) hb9))
            have hW := HW.out.below hx9.bel
            clear hx9 hb9 c1 c2 HW
            have c1 := hW.cell (get_at _ _ _)
            have c2 := hW.cell (get_at2 _ _ _ _ _)
            rw [Q1.out, HO.out] at c1
            rw [Q2.out, HO.out] at c2
            have f1 := hW.frozen (o + p)
            have f2 := hW.frozen (o + (p + 1))
            have hT := hW.swapL
            have c3 := hW.there2 (i := (X ++ P).length + 1 + ([] : List Int).length) (j := (X ++ P).length) (x := s) (by simp only [List.length_append, List.length_cons, List.length_nil]; omega) (by simp only [List.length_append, List.length_cons, List.length_nil]; omega)
            rw [Q1.out] at hT c3
            rw [show p + 1 + ([] : List Int).length = p + 1 from rfl, HO.out] at hT c3
            obtain ⟨z, c3⟩ := c3
            have S3 := Aside0.mk hT
            clear hT hW
            go_wp2_with fail
            go_big_region_o
            clear c1 c2 c3 f1 f2
            generalize ((w9.setCell ⟨blk, o + (p + 1), none⟩ (.int .i32 s)).setCell ⟨blk, o + p, none⟩ (.int .i32 x)).drew = w3 at S3 ⊢
            have HJ2 : Aside0 (p = a + P.length ∧ P.length ≤ g2') := ⟨HP2.out, by have := HJ.out.2; simp only [List.length_append, List.length_cons, List.length_nil] at this; omega⟩
            have HQ2 : Aside0 (S = P ++ (s :: Q) ∧ ∀ t ∈ s :: Q, clsU x < clsU t) := ⟨by rw [HQ.out.1]; simp, fun t ht => by
              rcases List.mem_cons.1 ht with rfl | ht
              · exact HC.out
              · exact HQ.out.2 t ht⟩
            clear HC HQ HJ HP2 Q1 Q2
            go_wp2_with fail
            go_roundg g2'
            case measure => omega
            case rel => exact ⟨p, P, s :: Q, by go_num, by omega, HJ2, HQ2, ⟨by have := S3.out; simpa using this⟩⟩
          · have hcf2 : ¬ cfO x s < 0 := fun h => hc ((cfO_lt x s).1 h)
            have hcf : decide (cfO x s < 0) = false := decide_eq_false hcf2
            have OUT2 := Aside0.mk (OUT.out (fun t ht => by
              obtain ⟨hSP, _⟩ := HQ.out
              have h3 := HS.out.2.2
              rw [hSP] at h3
              have h4 := (List.pairwise_append.1 h3).1
              rcases List.mem_append.1 ht with ht | ht
              · have := (List.pairwise_append.1 h4).2.2 t ht s (by simp)
                omega
              · obtain rfl : t = s := by simpa using ht
                omega))
            clear OUT hc HI HS HQ HJ hS1 hiv
            go_wp2_with fail
            go_region_held3 (fun w' => w'.cell? ⟨blk, o + (p + 1), none⟩ = some (.int .i32 x) ∧ w'.cell? ⟨blk, o + p, none⟩ = some (.int .i32 s) ∧ RS wr ⟨blk, o + (p + 1), none⟩ ⟨blk, o + p, none⟩ x s w') (first | exact RS.facts (RS.start c2 c1) | exact RS.facts (by assumption)) (first | (go_at_call 62; (with_reducible refine (ordcmp _ _ _).mono ?_); rintro e w9 ⟨rfl, hb9⟩; have hx9 := RS.keep (RS.of (by assumption)) hb9))
            obtain ⟨S', G1, G2, G3⟩ := OUT2.out
            replace G3 := Aside0.mk (G3.out.below hx9.bel)
            clear OUT2 hx9 hb9 c1 c2 HW
            go_wp2_with fail
            go_roundg (b - (i + 1))
            case measure => have := HG.out; omega
            case rel => exact ⟨i + 1, S', T, by go_num, by omega, ⟨by omega⟩, G1, G2, G3⟩
end Go.Proofs.YtncbbgmhmofhnaaDoor.Pr
end

section
namespace Go.Proofs.YtncbbgmhmofhnaaDoor.Pr
open Go.RowKit Go.Proofs.YtncbbgmhmofhnaaDoorW.PrintWords Go.Proofs.YtncbbgmhmofhnaaDoorW.PrintLast Go.Proofs.YtncbbgmhmofhnaaDoorW.PrintMore
set_option linter.unusedVariables false
set_option linter.unusedSimpArgs false

theorem Srt.at_ {l : List Int} (h : Srt l) {i j : Nat} {x y : Int} (hij : i < j) (hi : l[i]? = some x) (hj : l[j]? = some y) : clsU x ≤ clsU y := by
  obtain ⟨h1, rfl⟩ := List.getElem?_eq_some_iff.1 hi
  obtain ⟨h2, rfl⟩ := List.getElem?_eq_some_iff.1 hj
  exact List.pairwise_iff_getElem.1 h i j h1 h2 hij
theorem Srt.le {l : List Int} (h : Srt l) {i j : Nat} {x y : Int} (hij : i ≤ j) (hi : l[i]? = some x) (hj : l[j]? = some y) : clsU x ≤ clsU y := by
  rcases Nat.lt_or_ge i j with h' | h'
  · exact h.at_ h' hi hj
  · obtain rfl : i = j := by omega
    rw [hi] at hj
    rw [Option.some.inj hj]
    exact Int.le_refl _
/-- One ahead of a sorted row goes in. -/
theorem stb_in {x : Int} {B1 B2 : List Int} (hz : Nz (B1 ++ B2)) (hB : Srt (B1 ++ B2)) (h1 : ∀ b ∈ B1, clsU b < clsU x) (h2 : ∀ b ∈ B2, clsU x ≤ clsU b) : Stb ([x] ++ (B1 ++ B2)) (B1 ++ x :: B2) := by
  have hr := (So.rot (A := [x]) (B := B1) (fun b hb => hz b (List.mem_append_left _ hb)) (fun a ha b hb => by have e : a = x := List.mem_singleton.1 ha; rw [e]; exact h1 b hb)).right B2
  obtain ⟨p1, p2, p3⟩ := List.pairwise_append.1 hB
  refine ⟨by simpa using hr, ?_, List.pairwise_append.2 ⟨p1, List.pairwise_cons.2 ⟨h2, p2⟩, fun a ha b hb => ?_⟩⟩
  · exact List.perm_middle
  · rcases List.mem_cons.1 hb with rfl | hb
    · exact Int.le_of_lt (h1 a ha)
    · exact p3 a ha b hb
/-- One behind a sorted row goes in. -/
theorem stb_back {x : Int} {A1 A2 : List Int} (hx : clsU x ≠ 0) (hA : Srt (A1 ++ A2)) (h1 : ∀ b ∈ A1, clsU b ≤ clsU x) (h2 : ∀ b ∈ A2, clsU x < clsU b) : Stb ((A1 ++ A2) ++ [x]) (A1 ++ x :: A2) := by
  have hr := (So.move hx h2).left A1
  obtain ⟨p1, p2, p3⟩ := List.pairwise_append.1 hA
  refine ⟨by simpa using hr, ?_, List.pairwise_append.2 ⟨p1, List.pairwise_cons.2 ⟨fun b hb => Int.le_of_lt (h2 b hb), p2⟩, fun a ha b hb => ?_⟩⟩
  · rw [List.append_assoc]
    exact List.Perm.append_left _ (by simpa using (List.perm_middle (l₁ := A2) (l₂ := []) (a := x)).symm)
  · rcases List.mem_cons.1 hb with rfl | hb
    · exact h1 a ha
    · exact p3 a ha b hb
/-- Four pieces. -/
theorem stb_four {A1 A2 B1 B2 L R : List Int} (hz : Nz B1) (hA : Srt (A1 ++ A2)) (hB : Srt (B1 ++ B2)) (hL : Stb (A1 ++ B1) L) (hR : Stb (A2 ++ B2) R) (h1 : ∀ a ∈ A2, ∀ b ∈ B1, clsU b < clsU a) (h2 : ∀ a ∈ A1, ∀ b ∈ B2, clsU a ≤ clsU b) : Stb ((A1 ++ A2) ++ (B1 ++ B2)) (L ++ R) := by
  have hr := (So.rot (A := A2) (B := B1) hz h1).app A1 B2
  have e1 : (A1 ++ A2) ++ (B1 ++ B2) = A1 ++ ((A2 ++ B1) ++ B2) := by simp
  have e2 : A1 ++ ((B1 ++ A2) ++ B2) = (A1 ++ B1) ++ (A2 ++ B2) := by simp
  rw [e2] at hr
  rw [e1]
  have pA := (List.pairwise_append.1 hA).2.2
  have pB := (List.pairwise_append.1 hB).2.2
  refine ⟨So.trans hr (So.trans (hL.so.right _) (hR.so.left _)), ?_, List.pairwise_append.2 ⟨hL.srt, hR.srt, fun a ha b hb => ?_⟩⟩
  · rw [← e1]
    refine (hL.perm.append hR.perm).trans ?_
    rw [← e2, e1]
    exact List.Perm.append_left _ (List.Perm.append_right _ List.perm_append_comm)
  · rcases List.mem_append.1 (hL.perm.mem_iff.1 ha) with ha | ha <;> rcases List.mem_append.1 (hR.perm.mem_iff.1 hb) with hb | hb
    · exact pA a ha b hb
    · exact h2 a ha b hb
    · exact Int.le_of_lt (h1 b hb a ha)
    · exact pB a ha b hb
theorem Stb.refl {A : List Int} (h : Srt A) : Stb A A := ⟨So.refl _, .refl _, h⟩

/-- A search under way. -/
structure Srch (lo hi : Nat) (f g : Nat → Prop) (w : World → Prop) (i j : Nat) (W : World) : Prop where
  h1 : lo ≤ i
  h2 : i ≤ j
  h3 : j ≤ hi
  f : f i
  g : g j
  w : w W
set_option maxHeartbeats 2000000 in
set_option maxRecDepth 100000 in
theorem sym_one (w0 : World) (blk cap : Nat) (pre post : List Value) (X : List Int) (x : Int) (B Y : List Int) (hz : Nz B) (hs : Srt B) (hn : (X ++ (x :: (B ++ Y))).length ≤ 1000000) (W : World) (h : Win w0 blk pre post (X ++ (x :: (B ++ Y))) W) :
    Calls Tryd.prog 90 #[.slice (some ⟨blk, pre.length, none⟩) (X ++ (x :: (B ++ Y))).length cap, .int .i64 (X.length : Int), .int .i64 ((X.length + 1 : Nat) : Int), .int .i64 ((X.length + 1 + B.length : Nat) : Int), .func (.func 62) #[] #[]] W fun e w' => e = .returned (.tuple #[]) ∧ ∃ C, Stb (x :: B) C ∧ Win w0 blk pre post (X ++ (C ++ Y)) w' := by
  have mixed : Tryd.prog.follows .mixedOrders = true := by kernel_rfl
  obtain ⟨n, hnn⟩ : ∃ n, (X ++ (x :: (B ++ Y))).length = n := ⟨_, rfl⟩
  obtain ⟨o, ho⟩ : ∃ o, pre.length = o := ⟨_, rfl⟩
  obtain ⟨a, ha⟩ : ∃ a, X.length = a := ⟨_, rfl⟩
  obtain ⟨b, hb⟩ : ∃ b, b = a + 1 + B.length := ⟨_, rfl⟩
  rw [hnn] at hn
  rw [hnn, ho, ha, ← hb]
  have hbn : b ≤ n := by rw [hb, ← ha, ← hnn]; simp only [List.length_append, List.length_cons]; omega
  have hab : a + 1 ≤ b := by omega
  have HF := Aside0.mk hnn
  have HO := Aside0.mk ho
  have HA := Aside0.mk ha
  have HB := Aside0.mk hb
  have S0 := Aside0.mk h
  have hd0 : (a : Int) + 1 - (a : Int) = 1 := by omega
  clear h hnn ho ha hb
  go_enter Tryd.func90, Tryd.ntmps90
  go_wp2_with (simp only [hd0])
  -- the search
  go_loopw [10, 11] (fun vi vj wr => ∃ i j : Nat, vi = .int .i64 i ∧ vj = .int .i64 j ∧ Srch (a + 1) b (fun i => ∀ k y, k + a + 2 = i → B[k]? = some y → clsU y < clsU x) (fun j => ∀ k y, k + a + 1 = j → B[k]? = some y → ¬ clsU y < clsU x) (Win w0 blk pre post (X ++ (x :: (B ++ Y)))) i j wr) (fun vi vj _ => (intOf vj).toNat - (intOf vi).toNat)
  case atStart => exact ⟨a + 1, b, by rfl, by rfl, ⟨Nat.le_refl _, by omega, Nat.le_refl _, fun k y h => by omega, fun k y h hy => by
    have := (List.getElem?_eq_some_iff.1 hy).1
    have := HB.out
    omega, S0.out⟩⟩
  case round =>
    clear S0
    obtain ⟨i, j, rfl, rfl, ⟨h1, h2, h3, H1, H2, S1⟩⟩ := hrel
    replace H1 := Aside0.mk H1
    replace H2 := Aside0.mk H2
    replace S1 := Aside0.mk S1
    by_cases hij : i < j
    · go_wp2_with fail
      obtain ⟨h, hh⟩ : ∃ h : Nat, h = (i + j) / 2 := ⟨_, rfl⟩
      have hhz : ((i : Int) + (j : Int)) / 2 = (h : Int) := by omega
      rw [hhz]
      have h4 : i ≤ h := by omega
      have h5 : h < j := by omega
      obtain ⟨y, hy⟩ : ∃ y, B[h - (a + 1)]? = some y := ⟨_, List.getElem?_eq_getElem (by have := HB.out; omega)⟩
      have c1 : wr.cell? ⟨blk, o + h, none⟩ = some (.int .i32 y) := by
        rw [← HO.out]
        refine S1.out.cell ?_
        have hA := HA.out
        rw [List.getElem?_append_right (by omega), show h - X.length = (h - (a + 1)) + 1 by omega, List.getElem?_cons_succ, List.getElem?_append_left (List.getElem?_eq_some_iff.1 hy).1]
        exact hy
      have c2 : wr.cell? ⟨blk, o + a, none⟩ = some (.int .i32 x) := by
        rw [← HO.out, ← HA.out]
        exact S1.out.cell (by simp)
      have e1 : (h : Int) < (n : Int) := by omega
      have e2 : (a : Int) < (n : Int) := by omega
      clear hhz hh
      by_cases hc : clsU y < clsU x
      · have hcf2 : cfO y x < 0 := (cfO_lt y x).2 hc
        have hcf : decide (cfO y x < 0) = true := decide_eq_true hcf2
        have H1' : Aside0 (∀ k z, k + a + 2 = h + 1 → B[k]? = some z → clsU z < clsU x) := ⟨fun k z hk hz => by
          obtain rfl : k = h - (a + 1) := by omega
          rw [hz] at hy
          obtain rfl := Option.some.inj hy
          exact hc⟩
        clear hc H1
        go_region_held3 (fun w' => w'.cell? ⟨blk, o + h, none⟩ = some (.int .i32 y) ∧ w'.cell? ⟨blk, o + a, none⟩ = some (.int .i32 x) ∧ RS wr ⟨blk, o + h, none⟩ ⟨blk, o + a, none⟩ y x w') (first | exact RS.facts (RS.start c1 c2) | exact RS.facts (by assumption)) (first | (go_at_call 62; (with_reducible refine (ordcmp _ _ _).mono ?_); rintro e w9 ⟨rfl, hb9⟩; have hx9 := RS.keep (RS.of (by assumption)) hb9))
        replace S1 := Aside0.mk (S1.out.below hx9.bel)
        clear hx9 hb9 c1 c2 hy
        go_wp2_with fail
        go_roundw
        case rel => exact ⟨h + 1, by go_num, j, rfl, ⟨by omega, by omega, h3, H1'.out, H2.out, S1.out⟩⟩
        case measure => simp [intOf]; omega
      · have hcf2 : ¬ cfO y x < 0 := fun h => hc ((cfO_lt y x).1 h)
        have hcf : decide (cfO y x < 0) = false := decide_eq_false hcf2
        have H2' : Aside0 (∀ k z, k + a + 1 = h → B[k]? = some z → ¬ clsU z < clsU x) := ⟨fun k z hk hz => by
          obtain rfl : k = h - (a + 1) := by omega
          rw [hz] at hy
          obtain rfl := Option.some.inj hy
          exact hc⟩
        clear hc H2
        go_region_held3 (fun w' => w'.cell? ⟨blk, o + h, none⟩ = some (.int .i32 y) ∧ w'.cell? ⟨blk, o + a, none⟩ = some (.int .i32 x) ∧ RS wr ⟨blk, o + h, none⟩ ⟨blk, o + a, none⟩ y x w') (first | exact RS.facts (RS.start c1 c2) | exact RS.facts (by assumption)) (first | (go_at_call 62; (with_reducible refine (ordcmp _ _ _).mono ?_); rintro e w9 ⟨rfl, hb9⟩; have hx9 := RS.keep (RS.of (by assumption)) hb9))
        replace S1 := Aside0.mk (S1.out.below hx9.bel)
        clear hx9 hb9 c1 c2 hy
        go_wp2_with fail
        go_roundw
        case rel => exact ⟨i, rfl, h, rfl, ⟨by omega, by omega, by omega, H1.out, H2'.out, S1.out⟩⟩
        case measure => simp [intOf]; omega
    · obtain rfl : i = j := by omega
      obtain ⟨B1, B2, hB12, hB1⟩ : ∃ B1 B2, B = B1 ++ B2 ∧ B1.length = i - (a + 1) := ⟨B.take (i - (a + 1)), B.drop (i - (a + 1)), (List.take_append_drop _ _).symm, by rw [List.length_take]; have := HB.out; omega⟩
      have K1 : ∀ b ∈ B1, clsU b < clsU x := fun b hb => by
        obtain ⟨k, hk⟩ := List.getElem?_of_mem hb
        have hkl := (List.getElem?_eq_some_iff.1 hk).1
        obtain ⟨z, hz⟩ : ∃ z, B1[B1.length - 1]? = some z := ⟨_, List.getElem?_eq_getElem (by omega)⟩
        have hle : clsU b ≤ clsU z := Srt.le (i := k) (j := B1.length - 1) (by rw [hB12] at hs; exact (List.pairwise_append.1 hs).1) (by omega) hk hz
        have hz2 : B[B1.length - 1]? = some z := by rw [hB12, List.getElem?_append_left (by omega)]; exact hz
        have := H1.out (B1.length - 1) z (by omega) hz2
        omega
      have K2 : ∀ b ∈ B2, clsU x ≤ clsU b := fun b hb => by
        obtain ⟨k, hk⟩ := List.getElem?_of_mem hb
        have hkl := (List.getElem?_eq_some_iff.1 hk).1
        obtain ⟨z, hz⟩ : ∃ z, B2[0]? = some z := ⟨_, List.getElem?_eq_getElem (by omega)⟩
        have hle : clsU z ≤ clsU b := Srt.le (i := 0) (j := k) (by rw [hB12] at hs; exact (List.pairwise_append.1 hs).2.1) (by omega) hz hk
        have hz2 : B[B1.length]? = some z := by rw [hB12, List.getElem?_append_right (Nat.le_refl _), Nat.sub_self]; exact hz
        have := H2.out B1.length z (by omega) hz2
        omega
      have HR : Aside0 (Stb (x :: B) (B1 ++ x :: B2)) := ⟨by rw [hB12] at hz hs ⊢; exact stb_in hz hs K1 K2⟩
      have S2 : Aside0 (Win w0 blk pre post (X ++ ([] ++ x :: (B1 ++ (B2 ++ Y)))) wr) := ⟨by have := S1.out; rw [hB12] at this; simpa using this⟩
      have hi : i = a + 1 + B1.length := by omega
      subst hi
      have HL : Aside0 (X.length + (B1.length + 1 + (B2.length + Y.length)) = n) := ⟨by have := HF.out; rw [hB12] at this; simp only [List.length_append, List.length_cons] at this; omega⟩
      clear K1 K2 H1 H2 S1 HF HB hB12 hB1 hij hs hz
      have hw1 : (a : Int) + 1 + (B1.length : Int) - 1 = (a : Int) + (B1.length : Int) := by omega
      have hda : decide ((a : Int) + 1 + (B1.length : Int) < (a : Int) + 1 + (B1.length : Int)) = false := decide_eq_false (by omega)
      go_wp2_with fail
      go_loopw [13] (fun vk wr => ∃ P Q : List Int, vk = .int .i64 ((a + P.length : Nat) : Int) ∧ Aside0 (B1 = P ++ Q) ∧ Aside0 (Win w0 blk pre post (X ++ (P ++ x :: (Q ++ (B2 ++ Y)))) wr)) (fun vk _ => (a + B1.length) - (intOf vk).toNat)
      case atStart => exact ⟨[], B1, rfl, ⟨rfl⟩, S2⟩
      case round =>
        clear S2
        obtain ⟨P, Q, rfl, HP, S3⟩ := hrel
        cases Q with
        | nil =>
          have hP : B1.length = P.length := by rw [HP.out]; simp
          have hd : decide ((a : Int) + (P.length : Int) < (a : Int) + (B1.length : Int)) = false := decide_eq_false (by omega)
          have hd2 : decide (P.length < B1.length) = false := decide_eq_false (by omega)
          clear hP
          go_wp2_with (simp only [hw1, hd, hd2])
          refine bodyPost_ret (results_none rfl _ _ _) rfl ?_
          exact ⟨rfl, B1 ++ x :: B2, HR.out, by have := S3.out; rw [HP.out]; simpa using this⟩
        | cons q Q =>
          have hP : B1.length = P.length + (Q.length + 1) := by rw [HP.out]; simp
          have hd : decide ((a : Int) + (P.length : Int) < (a : Int) + (B1.length : Int)) = true := decide_eq_true (by omega)
          have hd2 : decide (P.length < B1.length) = true := decide_eq_true (by omega)
          obtain ⟨p, hp⟩ : ∃ p, p = a + P.length := ⟨_, rfl⟩
          have hW : Win w0 blk pre post ((X ++ P) ++ x :: ([] ++ q :: (Q ++ (B2 ++ Y)))) wr := by have := S3.out; simpa using this
          have q1 : (X ++ P).length = p := by rw [List.length_append, HA.out, hp]
          have q2 : (X ++ P).length + 1 + ([] : List Int).length = p + 1 := by rw [q1]; rfl
          have c1 := hW.cell (get_at _ _ _)
          have c2 := hW.cell (get_at2 _ _ _ _ _)
          have hT := hW.swap
          have c3 := hW.there2 (i := (X ++ P).length) (j := (X ++ P).length + 1 + ([] : List Int).length) (x := q) (by simp only [List.length_append, List.length_cons, List.length_nil]; omega) (by simp only [List.length_append, List.length_cons, List.length_nil]; omega)
          rw [q1] at hT c3
          rw [show p + 1 + ([] : List Int).length = p + 1 from rfl, HO.out] at hT c3
          obtain ⟨z, c3⟩ := c3
          rw [q1, HO.out] at c1
          rw [q2, HO.out] at c2
          have f1 := hW.frozen (o + p)
          have f2 := hW.frozen (o + (p + 1))
          have S4 := Aside0.mk hT
          have hpn : p + 1 < n := by have := HL.out; have := HA.out; omega
          have e1 : ((p : Int) + 1).toNat = p + 1 := by omega
          have e2 : (0 : Int) ≤ (p : Int) + 1 := by omega
          have e3 : (p : Int) + 1 < (n : Int) := by omega
          have e4 : (p : Int) < (n : Int) := by omega
          have r1 : IntKind.i64.wrap ((p : Int) + 1) = (p : Int) + 1 := by rw [IntKind.wrap_i64]; omega
          have hpz : ((a + P.length : Nat) : Int) = (p : Int) := by omega
          have hd3 : decide ((p : Int) < (a : Int) + (B1.length : Int)) = true := decide_eq_true (by omega)
          have hpb : (p : Int) < (a : Int) + (B1.length : Int) := by omega
          rw [hpz]
          have HP2 := Aside0.mk hp
          have HP3 := Aside0.mk hP
          clear hT hW q1 q2 hpz hp hd hd2 S3 hP
          go_wp2_with (simp only [hw1, hd3])
          go_big_region_o
          clear c1 c2 c3 f1 f2
          generalize ((wr.setCell ⟨blk, o + p, none⟩ (.int .i32 q)).setCell ⟨blk, o + (p + 1), none⟩ (.int .i32 x)).drew = w3 at S4 ⊢
          go_wp2_with fail
          go_roundw
          case rel => exact ⟨P ++ [q], Q, by rw [HP2.out]; simp; omega, ⟨by rw [HP.out]; simp⟩, ⟨by have := S4.out; simpa using this⟩⟩
          case measure => have := HP2.out; have := HP3.out; simp [intOf]; omega

set_option maxHeartbeats 2000000 in
set_option maxRecDepth 100000 in
theorem sym_two (w0 : World) (blk cap : Nat) (pre post : List Value) (X A : List Int) (x : Int) (Y : List Int) (hA2 : 2 ≤ A.length) (hx : clsU x ≠ 0) (hs : Srt A) (hn : (X ++ (A ++ x :: Y)).length ≤ 1000000) (W : World) (h : Win w0 blk pre post (X ++ (A ++ x :: Y)) W) :
    Calls Tryd.prog 90 #[.slice (some ⟨blk, pre.length, none⟩) (X ++ (A ++ x :: Y)).length cap, .int .i64 (X.length : Int), .int .i64 ((X.length + A.length : Nat) : Int), .int .i64 ((X.length + A.length + 1 : Nat) : Int), .func (.func 62) #[] #[]] W fun e w' => e = .returned (.tuple #[]) ∧ ∃ C, Stb (A ++ [x]) C ∧ Win w0 blk pre post (X ++ (C ++ Y)) w' := by
  have mixed : Tryd.prog.follows .mixedOrders = true := by kernel_rfl
  obtain ⟨n, hnn⟩ : ∃ n, (X ++ (A ++ x :: Y)).length = n := ⟨_, rfl⟩
  obtain ⟨o, ho⟩ : ∃ o, pre.length = o := ⟨_, rfl⟩
  obtain ⟨a, ha⟩ : ∃ a, X.length = a := ⟨_, rfl⟩
  obtain ⟨m, hm⟩ : ∃ m, m = a + A.length := ⟨_, rfl⟩
  rw [hnn] at hn
  rw [hnn, ho, ha, ← hm]
  have hmn : m + 1 ≤ n := by rw [hm, ← ha, ← hnn]; simp only [List.length_append, List.length_cons]; omega
  have ham : a + 2 ≤ m := by omega
  have HF := Aside0.mk hnn
  have HO := Aside0.mk ho
  have HA := Aside0.mk ha
  have HM := Aside0.mk hm
  have S0 := Aside0.mk h
  have hd1 : ((m : Int) - (a : Int) == 1) = false := beq_eq_false_iff_ne.2 (by omega)
  have hd0 : (m : Int) + 1 - (m : Int) = 1 := by omega
  clear h hnn ho ha hm hA2
  go_enter Tryd.func90, Tryd.ntmps90
  go_wp2_with (first | simp only [hd0] | simp only [hd1])
  go_loopw [14, 15] (fun vi vj wr => ∃ i j : Nat, vi = .int .i64 i ∧ vj = .int .i64 j ∧ Srch a m (fun i => ∀ k y, k + a + 1 = i → A[k]? = some y → ¬ clsU x < clsU y) (fun j => ∀ k y, k + a = j → A[k]? = some y → clsU x < clsU y) (Win w0 blk pre post (X ++ (A ++ x :: Y))) i j wr) (fun vi vj _ => (intOf vj).toNat - (intOf vi).toNat)
  case atStart => exact ⟨a, m, by rfl, by rfl, ⟨Nat.le_refl _, by omega, Nat.le_refl _, fun k y h => by omega, fun k y h hy => by
    have := (List.getElem?_eq_some_iff.1 hy).1
    have := HM.out
    omega, S0.out⟩⟩
  case round =>
    clear S0
    obtain ⟨i, j, rfl, rfl, ⟨h1, h2, h3, H1, H2, S1⟩⟩ := hrel
    replace H1 := Aside0.mk H1
    replace H2 := Aside0.mk H2
    replace S1 := Aside0.mk S1
    by_cases hij : i < j
    · go_wp2_with fail
      obtain ⟨h, hh⟩ : ∃ h : Nat, h = (i + j) / 2 := ⟨_, rfl⟩
      have hhz : ((i : Int) + (j : Int)) / 2 = (h : Int) := by omega
      rw [hhz]
      have h4 : i ≤ h := by omega
      have h5 : h < j := by omega
      obtain ⟨y, hy⟩ : ∃ y, A[h - a]? = some y := ⟨_, List.getElem?_eq_getElem (by have := HM.out; omega)⟩
      have c2 : wr.cell? ⟨blk, o + h, none⟩ = some (.int .i32 y) := by
        rw [← HO.out]
        refine S1.out.cell ?_
        have hA := HA.out
        rw [List.getElem?_append_right (by omega), show h - X.length = h - a by omega, List.getElem?_append_left (List.getElem?_eq_some_iff.1 hy).1]
        exact hy
      have c1 : wr.cell? ⟨blk, o + m, none⟩ = some (.int .i32 x) := by
        rw [← HO.out]
        refine S1.out.cell ?_
        have hA := HA.out
        have hM := HM.out
        rw [List.getElem?_append_right (by omega), List.getElem?_append_right (by omega), show m - X.length - A.length = 0 by omega]
        rfl
      have e1 : (h : Int) < (n : Int) := by omega
      have e2 : (m : Int) < (n : Int) := by omega
      clear hhz hh
      by_cases hc : clsU x < clsU y
      · have hcf2 : cfO x y < 0 := (cfO_lt x y).2 hc
        have hcf : decide (cfO x y < 0) = true := decide_eq_true hcf2
        have H2' : Aside0 (∀ k z, k + a = h → A[k]? = some z → clsU x < clsU z) := ⟨fun k z hk hz => by
          obtain rfl : k = h - a := by omega
          rw [hz] at hy
          obtain rfl := Option.some.inj hy
          exact hc⟩
        clear hc H2
        go_region_held3 (fun w' => w'.cell? ⟨blk, o + m, none⟩ = some (.int .i32 x) ∧ w'.cell? ⟨blk, o + h, none⟩ = some (.int .i32 y) ∧ RS wr ⟨blk, o + m, none⟩ ⟨blk, o + h, none⟩ x y w') (first | exact RS.facts (RS.start c1 c2) | exact RS.facts (by assumption)) (first | (go_at_call 62; (with_reducible refine (ordcmp _ _ _).mono ?_); rintro e w9 ⟨rfl, hb9⟩; have hx9 := RS.keep (RS.of (by assumption)) hb9))
        replace S1 := Aside0.mk (S1.out.below hx9.bel)
        clear hx9 hb9 c1 c2 hy
        go_wp2_with fail
        go_roundw
        case rel => exact ⟨i, rfl, h, rfl, ⟨by omega, by omega, by omega, H1.out, H2'.out, S1.out⟩⟩
        case measure => simp [intOf]; omega
      · have hcf2 : ¬ cfO x y < 0 := fun h => hc ((cfO_lt x y).1 h)
        have hcf : decide (cfO x y < 0) = false := decide_eq_false hcf2
        have H1' : Aside0 (∀ k z, k + a + 1 = h + 1 → A[k]? = some z → ¬ clsU x < clsU z) := ⟨fun k z hk hz => by
          obtain rfl : k = h - a := by omega
          rw [hz] at hy
          obtain rfl := Option.some.inj hy
          exact hc⟩
        clear hc H1
        go_region_held3 (fun w' => w'.cell? ⟨blk, o + m, none⟩ = some (.int .i32 x) ∧ w'.cell? ⟨blk, o + h, none⟩ = some (.int .i32 y) ∧ RS wr ⟨blk, o + m, none⟩ ⟨blk, o + h, none⟩ x y w') (first | exact RS.facts (RS.start c1 c2) | exact RS.facts (by assumption)) (first | (go_at_call 62; (with_reducible refine (ordcmp _ _ _).mono ?_); rintro e w9 ⟨rfl, hb9⟩; have hx9 := RS.keep (RS.of (by assumption)) hb9))
        replace S1 := Aside0.mk (S1.out.below hx9.bel)
        clear hx9 hb9 c1 c2 hy
        go_wp2_with fail
        go_roundw
        case rel => exact ⟨h + 1, by go_num, j, rfl, ⟨by omega, by omega, h3, H1'.out, H2.out, S1.out⟩⟩
        case measure => simp [intOf]; omega
    · obtain rfl : i = j := by omega
      obtain ⟨A1, A2, hA12, hA1⟩ : ∃ A1 A2, A = A1 ++ A2 ∧ A1.length = i - a := ⟨A.take (i - a), A.drop (i - a), (List.take_append_drop _ _).symm, by rw [List.length_take]; have := HM.out; omega⟩
      have K1 : ∀ b ∈ A1, clsU b ≤ clsU x := fun b hb => by
        obtain ⟨k, hk⟩ := List.getElem?_of_mem hb
        have hkl := (List.getElem?_eq_some_iff.1 hk).1
        obtain ⟨z, hz⟩ : ∃ z, A1[A1.length - 1]? = some z := ⟨_, List.getElem?_eq_getElem (by omega)⟩
        have hle : clsU b ≤ clsU z := Srt.le (i := k) (j := A1.length - 1) (by rw [hA12] at hs; exact (List.pairwise_append.1 hs).1) (by omega) hk hz
        have hz2 : A[A1.length - 1]? = some z := by rw [hA12, List.getElem?_append_left (by omega)]; exact hz
        have := H1.out (A1.length - 1) z (by omega) hz2
        omega
      have K2 : ∀ b ∈ A2, clsU x < clsU b := fun b hb => by
        obtain ⟨k, hk⟩ := List.getElem?_of_mem hb
        have hkl := (List.getElem?_eq_some_iff.1 hk).1
        obtain ⟨z, hz⟩ : ∃ z, A2[0]? = some z := ⟨_, List.getElem?_eq_getElem (by omega)⟩
        have hle : clsU z ≤ clsU b := Srt.le (i := 0) (j := k) (by rw [hA12] at hs; exact (List.pairwise_append.1 hs).2.1) (by omega) hz hk
        have hz2 : A[A1.length]? = some z := by rw [hA12, List.getElem?_append_right (Nat.le_refl _), Nat.sub_self]; exact hz
        have := H2.out A1.length z (by omega) hz2
        omega
      have HR : Aside0 (Stb (A ++ [x]) (A1 ++ x :: A2)) := ⟨by rw [hA12] at hs ⊢; exact stb_back hx hs K1 K2⟩
      have S2 : Aside0 (Win w0 blk pre post (X ++ (A1 ++ (A2 ++ x :: ([] ++ Y)))) wr) := ⟨by have := S1.out; rw [hA12] at this; simpa using this⟩
      have hi : i = a + A1.length := by omega
      have hml : m = a + A1.length + A2.length := by rw [HM.out, hA12, List.length_append]; omega
      subst hi
      have HL := Aside0.mk hml
      clear K1 K2 H1 H2 S1 HF HM hA12 hA1 hij hs hml
      have hda : decide ((a : Int) + (A1.length : Int) < (a : Int) + (A1.length : Int)) = false := decide_eq_false (by omega)
      go_wp2_with fail
      go_loopw [17] (fun vk wr => ∃ Q R : List Int, vk = .int .i64 ((a + A1.length + Q.length : Nat) : Int) ∧ Aside0 (A2 = Q ++ R) ∧ Aside0 (Win w0 blk pre post (X ++ (A1 ++ (Q ++ x :: (R ++ Y)))) wr)) (fun vk _ => (intOf vk).toNat)
      case atStart => exact ⟨A2, [], by (rw [HL.out]), ⟨by simp⟩, S2⟩
      case round =>
        clear S2
        obtain ⟨Q, R, rfl, HP, S3⟩ := hrel
        rcases List.eq_nil_or_concat Q with rfl | ⟨Q, q, rfl⟩
        · have hd : decide ((a : Int) + (A1.length : Int) + 0 > (a : Int) + (A1.length : Int)) = false := decide_eq_false (by omega)
          go_wp2_with fail
          refine bodyPost_ret (results_none rfl _ _ _) rfl ?_
          exact ⟨rfl, A1 ++ x :: A2, HR.out, by have := S3.out; rw [HP.out]; simpa using this⟩
        · rw [List.concat_eq_append] at *
          obtain ⟨p, hp⟩ : ∃ p, p = a + A1.length + Q.length := ⟨_, rfl⟩
          have hW : Win w0 blk pre post ((X ++ (A1 ++ Q)) ++ q :: ([] ++ x :: (R ++ Y))) wr := by have := S3.out; simpa using this
          have q1 : (X ++ (A1 ++ Q)).length = p := by simp only [List.length_append]; rw [HA.out, hp]; omega
          have q2 : (X ++ (A1 ++ Q)).length + 1 + ([] : List Int).length = p + 1 := by rw [q1]; rfl
          have c1 := hW.cell (get_at _ _ _)
          have c2 := hW.cell (get_at2 _ _ _ _ _)
          have hT := hW.swapL
          have c3 := hW.there2 (i := (X ++ (A1 ++ Q)).length + 1 + ([] : List Int).length) (j := (X ++ (A1 ++ Q)).length) (x := q) (by simp only [List.length_append, List.length_cons, List.length_nil]; omega) (by simp only [List.length_append, List.length_cons, List.length_nil]; omega)
          rw [q1] at hT c3
          rw [show p + 1 + ([] : List Int).length = p + 1 from rfl, HO.out] at hT c3
          obtain ⟨z, c3⟩ := c3
          rw [q1, HO.out] at c1
          rw [q2, HO.out] at c2
          have f1 := hW.frozen (o + p)
          have f2 := hW.frozen (o + (p + 1))
          have S4 := Aside0.mk hT
          have hA2l : A2.length = Q.length + 1 + R.length := by rw [HP.out]; simp only [List.length_append, List.length_cons, List.length_nil]
          have hpn : p + 1 < n := by have := HL.out; omega
          have e1 : ((p : Int) + 1).toNat = p + 1 := by omega
          have e2 : (0 : Int) ≤ (p : Int) + 1 := by omega
          have e3 : (p : Int) + 1 < (n : Int) := by omega
          have e4 : (p : Int) < (n : Int) := by omega
          have r1 : IntKind.i64.wrap ((p : Int) + 1) = (p : Int) + 1 := by rw [IntKind.wrap_i64]; omega
          have hpz : ((a + A1.length + (Q ++ [q]).length : Nat) : Int) = (p : Int) + 1 := by simp only [List.length_append, List.length_cons, List.length_nil]; omega
          have hd3 : decide ((p : Int) + 1 > (a : Int) + (A1.length : Int)) = true := decide_eq_true (by omega)
          have hpb : (a : Int) + (A1.length : Int) < (p : Int) + 1 := by omega
          rw [hpz]
          have HP2 := Aside0.mk hp
          clear hT hW q1 q2 hpz hp S3 hA2l
          go_wp2_with (simp only [hd3])
          go_big_region_o
          clear c1 c2 c3 f1 f2
          generalize ((wr.setCell ⟨blk, o + (p + 1), none⟩ (.int .i32 q)).setCell ⟨blk, o + p, none⟩ (.int .i32 x)).drew = w3 at S4 ⊢
          go_wp2_with fail
          go_roundw
          case rel => exact ⟨Q, q :: R, by rw [HP2.out], ⟨by rw [HP.out]; simp⟩, ⟨by have := S4.out; simpa using this⟩⟩
          case measure => simp [intOf]
end Go.Proofs.YtncbbgmhmofhnaaDoor.Pr
end

section
namespace Go.Proofs.YtncbbgmhmofhnaaDoor.Pr
open Go.RowKit Go.Proofs.YtncbbgmhmofhnaaDoorW.PrintWords Go.Proofs.YtncbbgmhmofhnaaDoorW.PrintLast Go.Proofs.YtncbbgmhmofhnaaDoorW.PrintMore
set_option linter.unusedVariables false
set_option linter.unusedSimpArgs false

/-- What merging a row's two sorted pieces says. -/
def SymAt (N : Nat) : Prop := ∀ (w0 : World) (blk cap : Nat) (pre post : List Value) (X A B Y : List Int), A.length + B.length ≤ N → 0 < A.length → 0 < B.length → Nz (A ++ B) → Srt A → Srt B → (X ++ (A ++ (B ++ Y))).length ≤ 1000000 → ∀ W : World, Win w0 blk pre post (X ++ (A ++ (B ++ Y))) W →
    Calls Tryd.prog 90 #[.slice (some ⟨blk, pre.length, none⟩) (X ++ (A ++ (B ++ Y))).length cap, .int .i64 (X.length : Int), .int .i64 ((X.length + A.length : Nat) : Int), .int .i64 ((X.length + A.length + B.length : Nat) : Int), .func (.func 62) #[] #[]] W fun e w' => e = .returned (.tuple #[]) ∧ ∃ C, Stb (A ++ B) C ∧ Win w0 blk pre post (X ++ (C ++ Y)) w'
set_option maxHeartbeats 8000000 in
set_option maxRecDepth 100000 in
theorem sym_step (N : Nat) (IH : SymAt N) (w0 : World) (blk cap : Nat) (pre post : List Value) (X A B Y : List Int) (hN : A.length + B.length ≤ N + 1) (hA2 : 2 ≤ A.length) (hB2 : 2 ≤ B.length) (hz : Nz (A ++ B)) (hsA : Srt A) (hsB : Srt B) (hn : (X ++ (A ++ (B ++ Y))).length ≤ 1000000) (W : World) (h : Win w0 blk pre post (X ++ (A ++ (B ++ Y))) W) :
    Calls Tryd.prog 90 #[.slice (some ⟨blk, pre.length, none⟩) (X ++ (A ++ (B ++ Y))).length cap, .int .i64 (X.length : Int), .int .i64 ((X.length + A.length : Nat) : Int), .int .i64 ((X.length + A.length + B.length : Nat) : Int), .func (.func 62) #[] #[]] W fun e w' => e = .returned (.tuple #[]) ∧ ∃ C, Stb (A ++ B) C ∧ Win w0 blk pre post (X ++ (C ++ Y)) w' := by
  have mixed : Tryd.prog.follows .mixedOrders = true := by kernel_rfl
  obtain ⟨n, hnn⟩ : ∃ n, (X ++ (A ++ (B ++ Y))).length = n := ⟨_, rfl⟩
  obtain ⟨o, ho⟩ : ∃ o, pre.length = o := ⟨_, rfl⟩
  obtain ⟨a, ha⟩ : ∃ a, X.length = a := ⟨_, rfl⟩
  obtain ⟨m, hm⟩ : ∃ m, m = a + A.length := ⟨_, rfl⟩
  obtain ⟨b, hb⟩ : ∃ b, b = m + B.length := ⟨_, rfl⟩
  obtain ⟨mid, hmid⟩ : ∃ mid, mid = (a + b) / 2 := ⟨_, rfl⟩
  rw [hnn] at hn
  rw [hnn, ho, ha, ← hm, ← hb]
  have hbn : b ≤ n := by rw [hb, hm, ← ha, ← hnn]; simp only [List.length_append]; omega
  have hu : n = X.length + (A.length + (B.length + Y.length)) := by rw [← hnn]; simp only [List.length_append]
  have k1 : a + 2 ≤ m := by omega
  have k2 : m + 2 ≤ b := by omega
  have k3 : a < mid := by omega
  have k4 : mid < b := by omega
  have hb2 : 2 * mid ≤ a + b ∧ a + b ≤ 2 * mid + 1 := by omega
  have HF := Aside0.mk hu
  have HO := Aside0.mk ho
  have HA := Aside0.mk ha
  have HM := Aside0.mk hm
  have HB := Aside0.mk hb
  have S0 := Aside0.mk h
  have HZ := Aside0.mk hz
  have HSA := Aside0.mk hsA
  have HSB := Aside0.mk hsB
  have HN := Aside0.mk hN
  have HNN := Aside0.mk hnn
  have HH := Aside0.mk hb2
  have HMD : Aside0 (((a : Int) + (b : Int)) / 2 = (mid : Int)) := ⟨by omega⟩
  have hd1 : ((m : Int) - (a : Int) == 1) = false := beq_eq_false_iff_ne.2 (by omega)
  have hd2 : ((b : Int) - (m : Int) == 1) = false := beq_eq_false_iff_ne.2 (by omega)
  clear h hnn hu ho ha hm hb hA2 hB2 hmid hb2 hz hsA hsB hN
  -- where the search begins and ends
  obtain ⟨s0, r0, q0⟩ : ∃ s0 r0 : Nat, Aside0 ((mid < m ∧ s0 + b = mid + m ∧ r0 = mid) ∨ (¬ mid < m ∧ s0 = a ∧ r0 = m)) := by
    by_cases hc : mid < m
    · exact ⟨mid + m - b, mid, ⟨.inl ⟨hc, by have := HH.out; omega, rfl⟩⟩⟩
    · exact ⟨a, m, ⟨.inr ⟨hc, rfl, rfl⟩⟩⟩
  have q1 : a ≤ s0 := by have := q0.out; have := HH.out; omega
  have q2 : r0 ≤ m := by have := q0.out; omega
  have q3 : s0 ≤ r0 := by have := q0.out; have := HH.out; omega
  have q4 : r0 ≤ mid := by have := q0.out; omega
  have q5 : mid + m ≤ s0 + b := by have := q0.out; have := HH.out; omega
  have F0 : Aside0 (∀ k j x y, k + a + 1 = s0 → j + m + s0 = mid + m → A[k]? = some x → B[j]? = some y → clsU x ≤ clsU y) := ⟨fun k j x y h1 h2 hx hy => by
    have := (List.getElem?_eq_some_iff.1 hy).1
    have := HB.out
    have := q0.out
    omega⟩
  have G0 : Aside0 (∀ k j x y, k + a = r0 → j + m + r0 + 1 = mid + m → A[k]? = some x → B[j]? = some y → clsU y < clsU x) := ⟨fun k j x y h1 h2 hx hy => by
    have := (List.getElem?_eq_some_iff.1 hx).1
    have := HM.out
    have := q0.out
    omega⟩
  obtain ⟨p, hp⟩ : ∃ p, p + 1 = mid + m := ⟨mid + m - 1, by omega⟩
  have hpz : (mid : Int) + (m : Int) - 1 = (p : Int) := by omega
  have hpn : Aside0 (mid + m = p + 1) := ⟨hp.symm⟩
  clear hp
  have hs0 : Aside0 (mid < m → (mid : Int) + (m : Int) - (b : Int) = (s0 : Int)) := ⟨fun h => by have := q0.out; omega⟩
  replace IH := Aside0.mk IH
  go_enter Tryd.func90, Tryd.ntmps90
  go_upto_region 25 with (first | simp only [hd1] | simp only [hd2])
  rw [HMD.out]
  clear hd1 hd2 HMD
  by_cases hc : mid < m
  · go_upto_region 32 with (fail)
    rw [hs0.out hc]
    obtain rfl : mid = r0 := by have := q0.out; omega
    clear q0 hs0
    go_wp2_with (simp only [hpz])
    clear hpz hc
    go_loopw [20, 21] (fun vi vj wr => ∃ s r : Nat, vi = .int .i64 s ∧ vj = .int .i64 r ∧ Srch s0 mid (fun s => ∀ k j x y, k + a + 1 = s → j + m + s = mid + m → A[k]? = some x → B[j]? = some y → clsU x ≤ clsU y) (fun r => ∀ k j x y, k + a = r → j + m + r + 1 = mid + m → A[k]? = some x → B[j]? = some y → clsU y < clsU x) (Win w0 blk pre post (X ++ (A ++ (B ++ Y)))) s r wr) (fun vi vj _ => (intOf vj).toNat - (intOf vi).toNat)
    case atStart => exact ⟨s0, mid, by rfl, by rfl, ⟨Nat.le_refl _, q3, Nat.le_refl _, F0.out, G0.out, S0.out⟩⟩
    case round =>
      clear S0 F0 G0
      obtain ⟨s, r, rfl, rfl, ⟨h1, h2, h3, H1, H2, S1⟩⟩ := hrel
      replace H1 := Aside0.mk H1
      replace H2 := Aside0.mk H2
      replace S1 := Aside0.mk S1
      by_cases hij : s < r
      · go_wp2_with fail
        obtain ⟨c, hh⟩ : ∃ c : Nat, c = (s + r) / 2 := ⟨_, rfl⟩
        have hhz : ((s : Int) + (r : Int)) / 2 = (c : Int) := by omega
        rw [hhz]
        have h4 : s ≤ c := by omega
        have h5 : c < r := by omega
        obtain ⟨q, hq⟩ : ∃ q, q + c = p := ⟨p - c, by have := hpn.out; omega⟩
        have h6 : m ≤ q := by have := hpn.out; omega
        have h7 : q < b := by have := hpn.out; omega
        obtain ⟨x, hx⟩ : ∃ x, A[c - a]? = some x := ⟨_, List.getElem?_eq_getElem (by have := HM.out; omega)⟩
        obtain ⟨y, hy⟩ : ∃ y, B[q - m]? = some y := ⟨_, List.getElem?_eq_getElem (by have := HB.out; omega)⟩
        have c2 : wr.cell? ⟨blk, o + c, none⟩ = some (.int .i32 x) := by
          rw [← HO.out]
          refine S1.out.cell ?_
          have hA := HA.out
          rw [List.getElem?_append_right (by omega), show c - X.length = c - a by omega, List.getElem?_append_left (List.getElem?_eq_some_iff.1 hx).1]
          exact hx
        have c1 : wr.cell? ⟨blk, o + (p - c), none⟩ = some (.int .i32 y) := by
          rw [show p - c = q by omega, ← HO.out]
          refine S1.out.cell ?_
          have hA := HA.out
          have hM := HM.out
          rw [List.getElem?_append_right (by omega), List.getElem?_append_right (by omega), show q - X.length - A.length = q - m by omega, List.getElem?_append_left (List.getElem?_eq_some_iff.1 hy).1]
          exact hy
        have e1 : (c : Int) < (n : Int) := by omega
        have e2 : (q : Int) < (n : Int) := by omega
        have hpq : (p : Int) - (c : Int) = (q : Int) := by omega
        have r2 : (0 : Int) ≤ (p : Int) - (c : Int) := by omega
        have r3 : (p : Int) - (c : Int) < (n : Int) := by omega
        have r4 : ((p : Int) - (c : Int)).toNat = p - c := by omega
        have r5 : c ≤ p := by omega
        have r6 : (c : Int) ≤ (p : Int) := by omega
        have r7 : (p : Int) < (n : Int) + (c : Int) := by omega
        have r8 : p - c < n := by omega
        have r1 : IntKind.i64.wrap ((p : Int) - (c : Int)) = (p : Int) - (c : Int) := by rw [IntKind.wrap_i64]; omega
        clear hpq
        have HQ := Aside0.mk hq
        clear hhz hh hq
        by_cases hc : clsU y < clsU x
        · have hcf2 : cfO y x < 0 := (cfO_lt y x).2 hc
          have hcf : decide (cfO y x < 0) = true := decide_eq_true hcf2
          have H2' : Aside0 (∀ k j x y, k + a = c → j + m + c + 1 = mid + m → A[k]? = some x → B[j]? = some y → clsU y < clsU x) := ⟨fun k j x' y' hk hj hx' hy' => by
            obtain rfl : k = c - a := by omega
            obtain rfl : j = q - m := by have := hpn.out; have := HQ.out; omega
            rw [hx] at hx'
            rw [hy] at hy'
            obtain rfl := Option.some.inj hx'
            obtain rfl := Option.some.inj hy'
            exact hc⟩
          clear hc H2 hx hy HQ
          go_region_held3 (fun w' => w'.cell? ⟨blk, o + (p - c), none⟩ = some (.int .i32 y) ∧ w'.cell? ⟨blk, o + c, none⟩ = some (.int .i32 x) ∧ RS wr ⟨blk, o + (p - c), none⟩ ⟨blk, o + c, none⟩ y x w') (first | exact RS.facts (RS.start c1 c2) | exact RS.facts (by assumption)) (first | (go_at_call 62; (with_reducible refine (ordcmp _ _ _).mono ?_); rintro e w9 ⟨rfl, hb9⟩; have hx9 := RS.keep (RS.of (by assumption)) hb9))
          replace S1 := Aside0.mk (S1.out.below hx9.bel)
          clear hx9 hb9 c1 c2
          go_wp2_with fail
          go_roundw
          case rel => exact ⟨s, c, rfl, rfl, ⟨by omega, by omega, by omega, H1.out, H2'.out, S1.out⟩⟩
          case measure => simp [intOf]; omega
        · have hcf2 : ¬ cfO y x < 0 := fun h => hc ((cfO_lt y x).1 h)
          have hcf : decide (cfO y x < 0) = false := decide_eq_false hcf2
          have H1' : Aside0 (∀ k j x y, k + a + 1 = c + 1 → j + m + (c + 1) = mid + m → A[k]? = some x → B[j]? = some y → clsU x ≤ clsU y) := ⟨fun k j x' y' hk hj hx' hy' => by
            obtain rfl : k = c - a := by omega
            obtain rfl : j = q - m := by have := hpn.out; have := HQ.out; omega
            rw [hx] at hx'
            rw [hy] at hy'
            obtain rfl := Option.some.inj hx'
            obtain rfl := Option.some.inj hy'
            exact Int.not_lt.1 hc⟩
          clear hc H1 hx hy HQ
          go_region_held3 (fun w' => w'.cell? ⟨blk, o + (p - c), none⟩ = some (.int .i32 y) ∧ w'.cell? ⟨blk, o + c, none⟩ = some (.int .i32 x) ∧ RS wr ⟨blk, o + (p - c), none⟩ ⟨blk, o + c, none⟩ y x w') (first | exact RS.facts (RS.start c1 c2) | exact RS.facts (by assumption)) (first | (go_at_call 62; (with_reducible refine (ordcmp _ _ _).mono ?_); rintro e w9 ⟨rfl, hb9⟩; have hx9 := RS.keep (RS.of (by assumption)) hb9))
          replace S1 := Aside0.mk (S1.out.below hx9.bel)
          clear hx9 hb9 c1 c2
          go_wp2_with fail
          go_roundw
          case rel => exact ⟨c + 1, r, by go_num, rfl, ⟨by omega, by omega, by omega, H1'.out, H2.out, S1.out⟩⟩
          case measure => simp [intOf]; omega
      · obtain rfl : s = r := by omega
        have hA := HA.out
        have hM := HM.out
        have hB := HB.out
        have hH := HH.out
        have hP := hpn.out
        obtain ⟨e, he⟩ : ∃ e, e + s = mid + m := ⟨mid + m - s, by omega⟩
        have hez : (mid : Int) + (m : Int) - (s : Int) = (e : Int) := by omega
        obtain ⟨A1, A2, hA12, hA1⟩ : ∃ A1 A2, A = A1 ++ A2 ∧ A1.length = s - a := ⟨A.take (s - a), A.drop (s - a), (List.take_append_drop _ _).symm, by rw [List.length_take]; omega⟩
        obtain ⟨B1, B2, hB12, hB1⟩ : ∃ B1 B2, B = B1 ++ B2 ∧ B1.length = e - m := ⟨B.take (e - m), B.drop (e - m), (List.take_append_drop _ _).symm, by rw [List.length_take]; omega⟩
        have hA2 : A2.length = m - s := by have : A.length = A1.length + A2.length := by rw [hA12, List.length_append]
                                           omega
        have hB2 : B2.length = b - e := by have : B.length = B1.length + B2.length := by rw [hB12, List.length_append]
                                           omega
        have hsA := HSA.out
        have hsB := HSB.out
        have hz := HZ.out
        rw [hA12] at hsA
        rw [hB12] at hsB
        obtain ⟨pA1, pA2, pA3⟩ := List.pairwise_append.1 hsA
        obtain ⟨pB1, pB2, pB3⟩ := List.pairwise_append.1 hsB
        have K1 : ∀ x ∈ A2, ∀ y ∈ B1, clsU y < clsU x := fun x hx y hy => by
          have l2 := List.length_pos_of_mem hx
          have l1 := List.length_pos_of_mem hy
          obtain ⟨u, hu⟩ : ∃ u, A2[0]? = some u := ⟨_, List.getElem?_eq_getElem l2⟩
          obtain ⟨v, hv⟩ : ∃ v, B1[B1.length - 1]? = some v := ⟨_, List.getElem?_eq_getElem (by omega)⟩
          obtain ⟨k, hk⟩ := List.getElem?_of_mem hx
          obtain ⟨j, hj⟩ := List.getElem?_of_mem hy
          have hjl := (List.getElem?_eq_some_iff.1 hj).1
          have e1 : clsU u ≤ clsU x := Srt.le (i := 0) (j := k) pA2 (by omega) hu hk
          have e2 : clsU y ≤ clsU v := Srt.le (i := j) (j := B1.length - 1) pB1 (by omega) hj hv
          have hu2 : A[A1.length]? = some u := by rw [hA12, List.getElem?_append_right (Nat.le_refl _), Nat.sub_self]; exact hu
          have hv2 : B[B1.length - 1]? = some v := by rw [hB12, List.getElem?_append_left (by omega)]; exact hv
          have := H2.out A1.length (B1.length - 1) u v (by omega) (by omega) hu2 hv2
          omega
        have K2 : ∀ x ∈ A1, ∀ y ∈ B2, clsU x ≤ clsU y := fun x hx y hy => by
          have l2 := List.length_pos_of_mem hx
          have l1 := List.length_pos_of_mem hy
          obtain ⟨u, hu⟩ : ∃ u, A1[A1.length - 1]? = some u := ⟨_, List.getElem?_eq_getElem (by omega)⟩
          obtain ⟨v, hv⟩ : ∃ v, B2[0]? = some v := ⟨_, List.getElem?_eq_getElem l1⟩
          obtain ⟨k, hk⟩ := List.getElem?_of_mem hx
          obtain ⟨j, hj⟩ := List.getElem?_of_mem hy
          have hkl := (List.getElem?_eq_some_iff.1 hk).1
          have e1 : clsU x ≤ clsU u := Srt.le (i := k) (j := A1.length - 1) pA1 (by omega) hk hu
          have e2 : clsU v ≤ clsU y := Srt.le (i := 0) (j := j) pB2 (by omega) hv hj
          have hu2 : A[A1.length - 1]? = some u := by rw [hA12, List.getElem?_append_left (by omega)]; exact hu
          have hv2 : B[B1.length]? = some v := by rw [hB12, List.getElem?_append_right (Nat.le_refl _), Nat.sub_self]; exact hv
          have := H1.out (A1.length - 1) B1.length u v (by omega) (by omega) hu2 hv2
          omega
        have nzB1 : Nz B1 := fun x hx => hz x (by rw [hB12]; simp [hx])
        have nzL : Nz (A1 ++ B1) := fun x hx => hz x (by rw [hA12, hB12]; rcases List.mem_append.1 hx with h | h <;> simp [h])
        have nzR : Nz (A2 ++ B2) := fun x hx => hz x (by rw [hA12, hB12]; rcases List.mem_append.1 hx with h | h <;> simp [h])
        have sL : s = a ∨ s = mid → Srt (A1 ++ B1) := fun h => by
          rcases h with h | h
          · obtain rfl : A1 = [] := List.length_eq_zero_iff.1 (by omega)
            exact pB1
          · obtain rfl : B1 = [] := List.length_eq_zero_iff.1 (by omega)
            rw [List.append_nil]; exact pA1
        have sR : s = m ∨ e = b → Srt (A2 ++ B2) := fun h => by
          rcases h with h | h
          · obtain rfl : A2 = [] := List.length_eq_zero_iff.1 (by omega)
            exact pB2
          · obtain rfl : B2 = [] := List.length_eq_zero_iff.1 (by omega)
            rw [List.append_nil]; exact pA2
        have DONE : Aside0 (∀ L R, Stb (A1 ++ B1) L → Stb (A2 ++ B2) R → Stb (A ++ B) (L ++ R)) := ⟨fun L R hL hR => by rw [hA12, hB12]; exact stb_four nzB1 hsA hsB hL hR K1 K2⟩
        have HW : Win w0 blk pre post (X ++ (A1 ++ (A2 ++ (B1 ++ (B2 ++ Y))))) wr := by have := S1.out; rw [hA12, hB12] at this; simpa using this
        have hnl : n = X.length + (A1.length + (A2.length + (B1.length + (B2.length + Y.length)))) := by rw [HF.out, hA12, hB12]; simp only [List.length_append]; omega
        have HRot : Aside0 (s < m → m < e → ∀ W : World, Win w0 blk pre post (X ++ (A1 ++ (A2 ++ (B1 ++ (B2 ++ Y))))) W → Calls Tryd.prog 92 #[.slice (some ⟨blk, o, none⟩) n cap, .int .i64 (s : Int), .int .i64 (m : Int), .int .i64 (e : Int), .func (.func 62) #[] #[]] W fun e w' => e = .returned (.tuple #[]) ∧ Win w0 blk pre post (X ++ (A1 ++ (B1 ++ (A2 ++ (B2 ++ Y))))) w') := ⟨fun h1 h2 W hW => by
          have hl : ((X ++ A1) ++ (A2 ++ (B1 ++ (B2 ++ Y)))).length = n := by simp only [List.length_append]; omega
          have := rotate_any w0 blk cap pre post (X ++ A1) A2 B1 (B2 ++ Y) (.func (.func 62) #[] #[]) (by omega) (by omega) (by rw [hl]; exact hn) W (by simpa using hW)
          rw [hl, HO.out, show (X ++ A1).length = s by rw [List.length_append]; omega, show s + A2.length = m by omega, show m + B1.length = e by omega] at this
          simpa using this⟩
        have HLft : Aside0 (a < s → s < mid → ∀ W : World, Win w0 blk pre post (X ++ (A1 ++ (B1 ++ (A2 ++ (B2 ++ Y))))) W → Calls Tryd.prog 90 #[.slice (some ⟨blk, o, none⟩) n cap, .int .i64 (a : Int), .int .i64 (s : Int), .int .i64 (mid : Int), .func (.func 62) #[] #[]] W fun e w' => e = .returned (.tuple #[]) ∧ ∃ L, Stb (A1 ++ B1) L ∧ Aside0 (Win w0 blk pre post (X ++ (L ++ (A2 ++ (B2 ++ Y)))) w')) := ⟨fun h1 h2 W hW => by
          have hl : (X ++ (A1 ++ (B1 ++ (A2 ++ (B2 ++ Y))))).length = n := by simp only [List.length_append]; omega
          have := IH.out w0 blk cap pre post X A1 B1 (A2 ++ (B2 ++ Y)) (by have := HN.out; omega) (by omega) (by omega) nzL pA1 pB1 (by rw [hl]; exact hn) W hW
          rw [hl, HO.out, hA, show a + A1.length = s by omega, show s + B1.length = mid by omega] at this
          exact this.mono fun _ _ ⟨q1, L, q2, q3⟩ => ⟨q1, L, q2, ⟨q3⟩⟩⟩
        have HRgt : Aside0 (mid < e → e < b → ∀ (L : List Int), L.length = A1.length + B1.length → ∀ W : World, Win w0 blk pre post (X ++ (L ++ (A2 ++ (B2 ++ Y)))) W → Calls Tryd.prog 90 #[.slice (some ⟨blk, o, none⟩) n cap, .int .i64 (mid : Int), .int .i64 (e : Int), .int .i64 (b : Int), .func (.func 62) #[] #[]] W fun e w' => e = .returned (.tuple #[]) ∧ ∃ R, Stb (A2 ++ B2) R ∧ Aside0 (Win w0 blk pre post (X ++ (L ++ (R ++ Y))) w')) := ⟨fun h1 h2 L hL W hW => by
          have hl : ((X ++ L) ++ (A2 ++ (B2 ++ Y))).length = n := by simp only [List.length_append]; omega
          have := IH.out w0 blk cap pre post (X ++ L) A2 B2 Y (by have := HN.out; omega) (by omega) (by omega) nzR pA2 pB2 (by rw [hl]; exact hn) W (by simpa using hW)
          rw [hl, HO.out, show (X ++ L).length = mid by rw [List.length_append]; omega, show mid + A2.length = e by omega, show e + B2.length = b by omega] at this
          exact this.mono fun _ _ ⟨q1, R, q2, q3⟩ => ⟨q1, R, q2, ⟨by simpa using q3⟩⟩⟩
        have HNR : Aside0 (s = m ∨ s = mid → Win w0 blk pre post (X ++ (A1 ++ (B1 ++ (A2 ++ (B2 ++ Y))))) wr) := ⟨fun h => by
          rcases h with h | h
          · obtain rfl : A2 = [] := List.length_eq_zero_iff.1 (by omega)
            exact HW
          · obtain rfl : B1 = [] := List.length_eq_zero_iff.1 (by omega)
            exact HW⟩
        have LL : Aside0 ((A1 ++ B1).length = A1.length + B1.length) := ⟨List.length_append⟩
        have SL := Aside0.mk sL
        have SR := Aside0.mk sR
        have HE := Aside0.mk he
        replace HW := Aside0.mk HW
        have hm2 : s ≤ mid := by omega
        have hm3 : e ≤ b := by omega
        clear sL sR K1 K2 pA1 pA2 pA3 pB1 pB2 pB3 hsA hsB hz nzB1 nzL nzR hA hM hB hH hP hA1 hA2 hB1 hB2 hA12 hB12 hnl he S1 H1 H2 HZ HSA HSB HN hij IH HF HNN
        by_cases k : s < m
        · by_cases k : s < mid
          · by_cases k : a < s
            · by_cases k : e < b
              · have i1 : s < m := by assumption
                have i2 : m < e := by have := HE.out; omega
                have i3 : a < s := by omega
                have i4 : s < mid := by omega
                have i5 : mid < e := by have := HE.out; omega
                have i6 : e < b := by omega
                replace HRot := Aside0.mk (HRot.out i1 i2)
                replace HLft := Aside0.mk (HLft.out i3 i4)
                replace HRgt := Aside0.mk (HRgt.out i5 i6)
                clear HNR SL SR
                go_wp2_with (first | simp only [hez] | (go_at_call 92; (with_reducible refine (HRot.out _ HW.out).mono ?_); rintro e w' ⟨rfl, hw⟩; replace HW := Aside0.mk hw; clear hw) | (go_at_call 90; (with_reducible refine (HLft.out _ HW.out).mono ?_); rintro e w' ⟨rfl, L, hL, hw⟩; replace HW := hw; clear hw; replace LL := Aside0.mk (hL.len.trans LL.out); replace hL := Aside0.mk hL) | (go_at_call 90; (with_reducible refine (HRgt.out _ LL.out _ (by first | exact HW.out | (have := HW.out; simpa using this))).mono ?_); rintro e w' ⟨rfl, R, hR, hw⟩; replace HW := hw; clear hw; replace hR := Aside0.mk hR))
                go_end0
                exact ⟨rfl, _, DONE.out _ _ hL.out hR.out, by have := HW.out; simpa using this⟩
              · have i1 : s < m := by assumption
                have i2 : m < e := by have := HE.out; omega
                have i3 : a < s := by omega
                have i4 : s < mid := by omega
                have i5 : mid < e := by have := HE.out; omega
                have i6 : ¬ e < b := by omega
                replace HRot := Aside0.mk (HRot.out i1 i2)
                replace HLft := Aside0.mk (HLft.out i3 i4)
                have hR := Aside0.mk (Stb.refl (SR.out (by omega)))
                clear HNR SL SR HRgt
                go_wp2_with (first | simp only [hez] | (go_at_call 92; (with_reducible refine (HRot.out _ HW.out).mono ?_); rintro e w' ⟨rfl, hw⟩; replace HW := Aside0.mk hw; clear hw) | (go_at_call 90; (with_reducible refine (HLft.out _ HW.out).mono ?_); rintro e w' ⟨rfl, L, hL, hw⟩; replace HW := hw; clear hw; replace LL := Aside0.mk (hL.len.trans LL.out); replace hL := Aside0.mk hL))
                go_end0
                exact ⟨rfl, _, DONE.out _ _ hL.out hR.out, by have := HW.out; simpa using this⟩
            · by_cases k : e < b
              · have i1 : s < m := by assumption
                have i2 : m < e := by have := HE.out; omega
                have i3 : ¬ a < s := by omega
                have i4 : s < mid := by omega
                have i5 : mid < e := by have := HE.out; omega
                have i6 : e < b := by omega
                replace HRot := Aside0.mk (HRot.out i1 i2)
                have hL := Aside0.mk (Stb.refl (SL.out (by omega)))
                replace HRgt := Aside0.mk (HRgt.out i5 i6)
                clear HNR SL SR HLft
                go_wp2_with (first | simp only [hez] | (go_at_call 92; (with_reducible refine (HRot.out _ HW.out).mono ?_); rintro e w' ⟨rfl, hw⟩; replace HW := Aside0.mk hw; clear hw) | (go_at_call 90; (with_reducible refine (HRgt.out _ LL.out _ (by first | exact HW.out | (have := HW.out; simpa using this))).mono ?_); rintro e w' ⟨rfl, R, hR, hw⟩; replace HW := hw; clear hw; replace hR := Aside0.mk hR))
                go_end0
                exact ⟨rfl, _, DONE.out _ _ hL.out hR.out, by have := HW.out; simpa using this⟩
              · have i1 : s < m := by assumption
                have i2 : m < e := by have := HE.out; omega
                have i3 : ¬ a < s := by omega
                have i4 : s < mid := by omega
                have i5 : mid < e := by have := HE.out; omega
                have i6 : ¬ e < b := by omega
                replace HRot := Aside0.mk (HRot.out i1 i2)
                have hL := Aside0.mk (Stb.refl (SL.out (by omega)))
                have hR := Aside0.mk (Stb.refl (SR.out (by omega)))
                clear HNR SL SR HLft HRgt
                go_wp2_with (first | simp only [hez] | (go_at_call 92; (with_reducible refine (HRot.out _ HW.out).mono ?_); rintro e w' ⟨rfl, hw⟩; replace HW := Aside0.mk hw; clear hw))
                go_end0
                exact ⟨rfl, _, DONE.out _ _ hL.out hR.out, by have := HW.out; simpa using this⟩
          · by_cases k : a < s
            · by_cases k : e < b
              · have i1 : s < m := by assumption
                have i2 : ¬ m < e := by have := HE.out; omega
                have i3 : a < s := by omega
                have i4 : ¬ s < mid := by omega
                have i5 : mid < e := by have := HE.out; omega
                have i6 : e < b := by omega
                replace HW := Aside0.mk (HNR.out (by omega))
                have hL := Aside0.mk (Stb.refl (SL.out (by omega)))
                replace HW : Aside0 (Win w0 blk pre post (X ++ ((A1 ++ B1) ++ (A2 ++ (B2 ++ Y)))) _) := ⟨by have := HW.out; simpa using this⟩
                replace HRgt := Aside0.mk (HRgt.out i5 i6)
                clear HNR SL SR HRot HLft
                go_wp2_with (first | simp only [hez] | (go_at_call 90; (with_reducible refine (HRgt.out _ LL.out _ (by first | exact HW.out | (have := HW.out; simpa using this))).mono ?_); rintro e w' ⟨rfl, R, hR, hw⟩; replace HW := hw; clear hw; replace hR := Aside0.mk hR))
                go_end0
                exact ⟨rfl, _, DONE.out _ _ hL.out hR.out, by have := HW.out; simpa using this⟩
              · have i1 : s < m := by assumption
                have i2 : ¬ m < e := by have := HE.out; omega
                have i3 : a < s := by omega
                have i4 : ¬ s < mid := by omega
                have i5 : mid < e := by have := HE.out; omega
                have i6 : ¬ e < b := by omega
                replace HW := Aside0.mk (HNR.out (by omega))
                have hL := Aside0.mk (Stb.refl (SL.out (by omega)))
                replace HW : Aside0 (Win w0 blk pre post (X ++ ((A1 ++ B1) ++ (A2 ++ (B2 ++ Y)))) _) := ⟨by have := HW.out; simpa using this⟩
                have hR := Aside0.mk (Stb.refl (SR.out (by omega)))
                clear HNR SL SR HRot HLft HRgt
                go_wp2_with (first | simp only [hez])
                go_end0
                exact ⟨rfl, _, DONE.out _ _ hL.out hR.out, by have := HW.out; simpa using this⟩
            · by_cases k : e < b
              · have i1 : s < m := by assumption
                have i2 : ¬ m < e := by have := HE.out; omega
                have i3 : ¬ a < s := by omega
                have i4 : ¬ s < mid := by omega
                have i5 : mid < e := by have := HE.out; omega
                have i6 : e < b := by omega
                replace HW := Aside0.mk (HNR.out (by omega))
                have hL := Aside0.mk (Stb.refl (SL.out (by omega)))
                replace HW : Aside0 (Win w0 blk pre post (X ++ ((A1 ++ B1) ++ (A2 ++ (B2 ++ Y)))) _) := ⟨by have := HW.out; simpa using this⟩
                replace HRgt := Aside0.mk (HRgt.out i5 i6)
                clear HNR SL SR HRot HLft
                go_wp2_with (first | simp only [hez] | (go_at_call 90; (with_reducible refine (HRgt.out _ LL.out _ (by first | exact HW.out | (have := HW.out; simpa using this))).mono ?_); rintro e w' ⟨rfl, R, hR, hw⟩; replace HW := hw; clear hw; replace hR := Aside0.mk hR))
                go_end0
                exact ⟨rfl, _, DONE.out _ _ hL.out hR.out, by have := HW.out; simpa using this⟩
              · have i1 : s < m := by assumption
                have i2 : ¬ m < e := by have := HE.out; omega
                have i3 : ¬ a < s := by omega
                have i4 : ¬ s < mid := by omega
                have i5 : mid < e := by have := HE.out; omega
                have i6 : ¬ e < b := by omega
                replace HW := Aside0.mk (HNR.out (by omega))
                have hL := Aside0.mk (Stb.refl (SL.out (by omega)))
                replace HW : Aside0 (Win w0 blk pre post (X ++ ((A1 ++ B1) ++ (A2 ++ (B2 ++ Y)))) _) := ⟨by have := HW.out; simpa using this⟩
                have hR := Aside0.mk (Stb.refl (SR.out (by omega)))
                clear HNR SL SR HRot HLft HRgt
                go_wp2_with (first | simp only [hez])
                go_end0
                exact ⟨rfl, _, DONE.out _ _ hL.out hR.out, by have := HW.out; simpa using this⟩
        · by_cases k : s < mid
          · by_cases k : a < s
            · by_cases k : e < b
              · have i1 : ¬ s < m := by omega
                have i2 : m < e := by have := HE.out; omega
                have i3 : a < s := by omega
                have i4 : s < mid := by omega
                have i5 : ¬ mid < e := by have := HE.out; omega
                have i6 : e < b := by omega
                replace HW := Aside0.mk (HNR.out (by omega))
                replace HLft := Aside0.mk (HLft.out i3 i4)
                have hR := Aside0.mk (Stb.refl (SR.out (by omega)))
                clear HNR SL SR HRot HRgt
                go_wp2_with (first | simp only [hez] | (go_at_call 90; (with_reducible refine (HLft.out _ HW.out).mono ?_); rintro e w' ⟨rfl, L, hL, hw⟩; replace HW := hw; clear hw; replace LL := Aside0.mk (hL.len.trans LL.out); replace hL := Aside0.mk hL))
                go_end0
                exact ⟨rfl, _, DONE.out _ _ hL.out hR.out, by have := HW.out; simpa using this⟩
              · have i1 : ¬ s < m := by omega
                have i2 : m < e := by have := HE.out; omega
                have i3 : a < s := by omega
                have i4 : s < mid := by omega
                have i5 : ¬ mid < e := by have := HE.out; omega
                have i6 : ¬ e < b := by omega
                replace HW := Aside0.mk (HNR.out (by omega))
                replace HLft := Aside0.mk (HLft.out i3 i4)
                have hR := Aside0.mk (Stb.refl (SR.out (by omega)))
                clear HNR SL SR HRot HRgt
                go_wp2_with (first | simp only [hez] | (go_at_call 90; (with_reducible refine (HLft.out _ HW.out).mono ?_); rintro e w' ⟨rfl, L, hL, hw⟩; replace HW := hw; clear hw; replace LL := Aside0.mk (hL.len.trans LL.out); replace hL := Aside0.mk hL))
                go_end0
                exact ⟨rfl, _, DONE.out _ _ hL.out hR.out, by have := HW.out; simpa using this⟩
            · by_cases k : e < b
              · have i1 : ¬ s < m := by omega
                have i2 : m < e := by have := HE.out; omega
                have i3 : ¬ a < s := by omega
                have i4 : s < mid := by omega
                have i5 : ¬ mid < e := by have := HE.out; omega
                have i6 : e < b := by omega
                replace HW := Aside0.mk (HNR.out (by omega))
                have hL := Aside0.mk (Stb.refl (SL.out (by omega)))
                replace HW : Aside0 (Win w0 blk pre post (X ++ ((A1 ++ B1) ++ (A2 ++ (B2 ++ Y)))) _) := ⟨by have := HW.out; simpa using this⟩
                have hR := Aside0.mk (Stb.refl (SR.out (by omega)))
                clear HNR SL SR HRot HLft HRgt
                go_wp2_with (first | simp only [hez])
                go_end0
                exact ⟨rfl, _, DONE.out _ _ hL.out hR.out, by have := HW.out; simpa using this⟩
              · have i1 : ¬ s < m := by omega
                have i2 : m < e := by have := HE.out; omega
                have i3 : ¬ a < s := by omega
                have i4 : s < mid := by omega
                have i5 : ¬ mid < e := by have := HE.out; omega
                have i6 : ¬ e < b := by omega
                replace HW := Aside0.mk (HNR.out (by omega))
                have hL := Aside0.mk (Stb.refl (SL.out (by omega)))
                replace HW : Aside0 (Win w0 blk pre post (X ++ ((A1 ++ B1) ++ (A2 ++ (B2 ++ Y)))) _) := ⟨by have := HW.out; simpa using this⟩
                have hR := Aside0.mk (Stb.refl (SR.out (by omega)))
                clear HNR SL SR HRot HLft HRgt
                go_wp2_with (first | simp only [hez])
                go_end0
                exact ⟨rfl, _, DONE.out _ _ hL.out hR.out, by have := HW.out; simpa using this⟩
          · by_cases k : a < s
            · by_cases k : e < b
              · have i1 : ¬ s < m := by omega
                have i2 : ¬ m < e := by have := HE.out; omega
                have i3 : a < s := by omega
                have i4 : ¬ s < mid := by omega
                have i5 : ¬ mid < e := by have := HE.out; omega
                have i6 : e < b := by omega
                replace HW := Aside0.mk (HNR.out (by omega))
                have hL := Aside0.mk (Stb.refl (SL.out (by omega)))
                replace HW : Aside0 (Win w0 blk pre post (X ++ ((A1 ++ B1) ++ (A2 ++ (B2 ++ Y)))) _) := ⟨by have := HW.out; simpa using this⟩
                have hR := Aside0.mk (Stb.refl (SR.out (by omega)))
                clear HNR SL SR HRot HLft HRgt
                go_wp2_with (first | simp only [hez])
                go_end0
                exact ⟨rfl, _, DONE.out _ _ hL.out hR.out, by have := HW.out; simpa using this⟩
              · have i1 : ¬ s < m := by omega
                have i2 : ¬ m < e := by have := HE.out; omega
                have i3 : a < s := by omega
                have i4 : ¬ s < mid := by omega
                have i5 : ¬ mid < e := by have := HE.out; omega
                have i6 : ¬ e < b := by omega
                replace HW := Aside0.mk (HNR.out (by omega))
                have hL := Aside0.mk (Stb.refl (SL.out (by omega)))
                replace HW : Aside0 (Win w0 blk pre post (X ++ ((A1 ++ B1) ++ (A2 ++ (B2 ++ Y)))) _) := ⟨by have := HW.out; simpa using this⟩
                have hR := Aside0.mk (Stb.refl (SR.out (by omega)))
                clear HNR SL SR HRot HLft HRgt
                go_wp2_with (first | simp only [hez])
                go_end0
                exact ⟨rfl, _, DONE.out _ _ hL.out hR.out, by have := HW.out; simpa using this⟩
            · by_cases k : e < b
              · have i1 : ¬ s < m := by omega
                have i2 : ¬ m < e := by have := HE.out; omega
                have i3 : ¬ a < s := by omega
                have i4 : ¬ s < mid := by omega
                have i5 : ¬ mid < e := by have := HE.out; omega
                have i6 : e < b := by omega
                replace HW := Aside0.mk (HNR.out (by omega))
                have hL := Aside0.mk (Stb.refl (SL.out (by omega)))
                replace HW : Aside0 (Win w0 blk pre post (X ++ ((A1 ++ B1) ++ (A2 ++ (B2 ++ Y)))) _) := ⟨by have := HW.out; simpa using this⟩
                have hR := Aside0.mk (Stb.refl (SR.out (by omega)))
                clear HNR SL SR HRot HLft HRgt
                go_wp2_with (first | simp only [hez])
                go_end0
                exact ⟨rfl, _, DONE.out _ _ hL.out hR.out, by have := HW.out; simpa using this⟩
              · have i1 : ¬ s < m := by omega
                have i2 : ¬ m < e := by have := HE.out; omega
                have i3 : ¬ a < s := by omega
                have i4 : ¬ s < mid := by omega
                have i5 : ¬ mid < e := by have := HE.out; omega
                have i6 : ¬ e < b := by omega
                replace HW := Aside0.mk (HNR.out (by omega))
                have hL := Aside0.mk (Stb.refl (SL.out (by omega)))
                replace HW : Aside0 (Win w0 blk pre post (X ++ ((A1 ++ B1) ++ (A2 ++ (B2 ++ Y)))) _) := ⟨by have := HW.out; simpa using this⟩
                have hR := Aside0.mk (Stb.refl (SR.out (by omega)))
                clear HNR SL SR HRot HLft HRgt
                go_wp2_with (first | simp only [hez])
                go_end0
                exact ⟨rfl, _, DONE.out _ _ hL.out hR.out, by have := HW.out; simpa using this⟩
  · go_upto_region 32 with (fail)
    obtain rfl : a = s0 := by have := q0.out; omega
    obtain rfl : m = r0 := by have := q0.out; omega
    clear q0 hs0
    go_wp2_with (simp only [hpz])
    clear hpz hc
    go_loopw [20, 21] (fun vi vj wr => ∃ s r : Nat, vi = .int .i64 s ∧ vj = .int .i64 r ∧ Srch a m (fun s => ∀ k j x y, k + a + 1 = s → j + m + s = mid + m → A[k]? = some x → B[j]? = some y → clsU x ≤ clsU y) (fun r => ∀ k j x y, k + a = r → j + m + r + 1 = mid + m → A[k]? = some x → B[j]? = some y → clsU y < clsU x) (Win w0 blk pre post (X ++ (A ++ (B ++ Y)))) s r wr) (fun vi vj _ => (intOf vj).toNat - (intOf vi).toNat)
    case atStart => exact ⟨a, m, by rfl, by rfl, ⟨Nat.le_refl _, q3, Nat.le_refl _, F0.out, G0.out, S0.out⟩⟩
    case round =>
      clear S0 F0 G0
      obtain ⟨s, r, rfl, rfl, ⟨h1, h2, h3, H1, H2, S1⟩⟩ := hrel
      replace H1 := Aside0.mk H1
      replace H2 := Aside0.mk H2
      replace S1 := Aside0.mk S1
      by_cases hij : s < r
      · go_wp2_with fail
        obtain ⟨c, hh⟩ : ∃ c : Nat, c = (s + r) / 2 := ⟨_, rfl⟩
        have hhz : ((s : Int) + (r : Int)) / 2 = (c : Int) := by omega
        rw [hhz]
        have h4 : s ≤ c := by omega
        have h5 : c < r := by omega
        obtain ⟨q, hq⟩ : ∃ q, q + c = p := ⟨p - c, by have := hpn.out; omega⟩
        have h6 : m ≤ q := by have := hpn.out; omega
        have h7 : q < b := by have := hpn.out; omega
        obtain ⟨x, hx⟩ : ∃ x, A[c - a]? = some x := ⟨_, List.getElem?_eq_getElem (by have := HM.out; omega)⟩
        obtain ⟨y, hy⟩ : ∃ y, B[q - m]? = some y := ⟨_, List.getElem?_eq_getElem (by have := HB.out; omega)⟩
        have c2 : wr.cell? ⟨blk, o + c, none⟩ = some (.int .i32 x) := by
          rw [← HO.out]
          refine S1.out.cell ?_
          have hA := HA.out
          rw [List.getElem?_append_right (by omega), show c - X.length = c - a by omega, List.getElem?_append_left (List.getElem?_eq_some_iff.1 hx).1]
          exact hx
        have c1 : wr.cell? ⟨blk, o + (p - c), none⟩ = some (.int .i32 y) := by
          rw [show p - c = q by omega, ← HO.out]
          refine S1.out.cell ?_
          have hA := HA.out
          have hM := HM.out
          rw [List.getElem?_append_right (by omega), List.getElem?_append_right (by omega), show q - X.length - A.length = q - m by omega, List.getElem?_append_left (List.getElem?_eq_some_iff.1 hy).1]
          exact hy
        have e1 : (c : Int) < (n : Int) := by omega
        have e2 : (q : Int) < (n : Int) := by omega
        have hpq : (p : Int) - (c : Int) = (q : Int) := by omega
        have r2 : (0 : Int) ≤ (p : Int) - (c : Int) := by omega
        have r3 : (p : Int) - (c : Int) < (n : Int) := by omega
        have r4 : ((p : Int) - (c : Int)).toNat = p - c := by omega
        have r5 : c ≤ p := by omega
        have r6 : (c : Int) ≤ (p : Int) := by omega
        have r7 : (p : Int) < (n : Int) + (c : Int) := by omega
        have r8 : p - c < n := by omega
        have r1 : IntKind.i64.wrap ((p : Int) - (c : Int)) = (p : Int) - (c : Int) := by rw [IntKind.wrap_i64]; omega
        clear hpq
        have HQ := Aside0.mk hq
        clear hhz hh hq
        by_cases hc : clsU y < clsU x
        · have hcf2 : cfO y x < 0 := (cfO_lt y x).2 hc
          have hcf : decide (cfO y x < 0) = true := decide_eq_true hcf2
          have H2' : Aside0 (∀ k j x y, k + a = c → j + m + c + 1 = mid + m → A[k]? = some x → B[j]? = some y → clsU y < clsU x) := ⟨fun k j x' y' hk hj hx' hy' => by
            obtain rfl : k = c - a := by omega
            obtain rfl : j = q - m := by have := hpn.out; have := HQ.out; omega
            rw [hx] at hx'
            rw [hy] at hy'
            obtain rfl := Option.some.inj hx'
            obtain rfl := Option.some.inj hy'
            exact hc⟩
          clear hc H2 hx hy HQ
          go_region_held3 (fun w' => w'.cell? ⟨blk, o + (p - c), none⟩ = some (.int .i32 y) ∧ w'.cell? ⟨blk, o + c, none⟩ = some (.int .i32 x) ∧ RS wr ⟨blk, o + (p - c), none⟩ ⟨blk, o + c, none⟩ y x w') (first | exact RS.facts (RS.start c1 c2) | exact RS.facts (by assumption)) (first | (go_at_call 62; (with_reducible refine (ordcmp _ _ _).mono ?_); rintro e w9 ⟨rfl, hb9⟩; have hx9 := RS.keep (RS.of (by assumption)) hb9))
          replace S1 := Aside0.mk (S1.out.below hx9.bel)
          clear hx9 hb9 c1 c2
          go_wp2_with fail
          go_roundw
          case rel => exact ⟨s, c, rfl, rfl, ⟨by omega, by omega, by omega, H1.out, H2'.out, S1.out⟩⟩
          case measure => simp [intOf]; omega
        · have hcf2 : ¬ cfO y x < 0 := fun h => hc ((cfO_lt y x).1 h)
          have hcf : decide (cfO y x < 0) = false := decide_eq_false hcf2
          have H1' : Aside0 (∀ k j x y, k + a + 1 = c + 1 → j + m + (c + 1) = mid + m → A[k]? = some x → B[j]? = some y → clsU x ≤ clsU y) := ⟨fun k j x' y' hk hj hx' hy' => by
            obtain rfl : k = c - a := by omega
            obtain rfl : j = q - m := by have := hpn.out; have := HQ.out; omega
            rw [hx] at hx'
            rw [hy] at hy'
            obtain rfl := Option.some.inj hx'
            obtain rfl := Option.some.inj hy'
            exact Int.not_lt.1 hc⟩
          clear hc H1 hx hy HQ
          go_region_held3 (fun w' => w'.cell? ⟨blk, o + (p - c), none⟩ = some (.int .i32 y) ∧ w'.cell? ⟨blk, o + c, none⟩ = some (.int .i32 x) ∧ RS wr ⟨blk, o + (p - c), none⟩ ⟨blk, o + c, none⟩ y x w') (first | exact RS.facts (RS.start c1 c2) | exact RS.facts (by assumption)) (first | (go_at_call 62; (with_reducible refine (ordcmp _ _ _).mono ?_); rintro e w9 ⟨rfl, hb9⟩; have hx9 := RS.keep (RS.of (by assumption)) hb9))
          replace S1 := Aside0.mk (S1.out.below hx9.bel)
          clear hx9 hb9 c1 c2
          go_wp2_with fail
          go_roundw
          case rel => exact ⟨c + 1, r, by go_num, rfl, ⟨by omega, by omega, by omega, H1'.out, H2.out, S1.out⟩⟩
          case measure => simp [intOf]; omega
      · obtain rfl : s = r := by omega
        have hA := HA.out
        have hM := HM.out
        have hB := HB.out
        have hH := HH.out
        have hP := hpn.out
        obtain ⟨e, he⟩ : ∃ e, e + s = mid + m := ⟨mid + m - s, by omega⟩
        have hez : (mid : Int) + (m : Int) - (s : Int) = (e : Int) := by omega
        obtain ⟨A1, A2, hA12, hA1⟩ : ∃ A1 A2, A = A1 ++ A2 ∧ A1.length = s - a := ⟨A.take (s - a), A.drop (s - a), (List.take_append_drop _ _).symm, by rw [List.length_take]; omega⟩
        obtain ⟨B1, B2, hB12, hB1⟩ : ∃ B1 B2, B = B1 ++ B2 ∧ B1.length = e - m := ⟨B.take (e - m), B.drop (e - m), (List.take_append_drop _ _).symm, by rw [List.length_take]; omega⟩
        have hA2 : A2.length = m - s := by have : A.length = A1.length + A2.length := by rw [hA12, List.length_append]
                                           omega
        have hB2 : B2.length = b - e := by have : B.length = B1.length + B2.length := by rw [hB12, List.length_append]
                                           omega
        have hsA := HSA.out
        have hsB := HSB.out
        have hz := HZ.out
        rw [hA12] at hsA
        rw [hB12] at hsB
        obtain ⟨pA1, pA2, pA3⟩ := List.pairwise_append.1 hsA
        obtain ⟨pB1, pB2, pB3⟩ := List.pairwise_append.1 hsB
        have K1 : ∀ x ∈ A2, ∀ y ∈ B1, clsU y < clsU x := fun x hx y hy => by
          have l2 := List.length_pos_of_mem hx
          have l1 := List.length_pos_of_mem hy
          obtain ⟨u, hu⟩ : ∃ u, A2[0]? = some u := ⟨_, List.getElem?_eq_getElem l2⟩
          obtain ⟨v, hv⟩ : ∃ v, B1[B1.length - 1]? = some v := ⟨_, List.getElem?_eq_getElem (by omega)⟩
          obtain ⟨k, hk⟩ := List.getElem?_of_mem hx
          obtain ⟨j, hj⟩ := List.getElem?_of_mem hy
          have hjl := (List.getElem?_eq_some_iff.1 hj).1
          have e1 : clsU u ≤ clsU x := Srt.le (i := 0) (j := k) pA2 (by omega) hu hk
          have e2 : clsU y ≤ clsU v := Srt.le (i := j) (j := B1.length - 1) pB1 (by omega) hj hv
          have hu2 : A[A1.length]? = some u := by rw [hA12, List.getElem?_append_right (Nat.le_refl _), Nat.sub_self]; exact hu
          have hv2 : B[B1.length - 1]? = some v := by rw [hB12, List.getElem?_append_left (by omega)]; exact hv
          have := H2.out A1.length (B1.length - 1) u v (by omega) (by omega) hu2 hv2
          omega
        have K2 : ∀ x ∈ A1, ∀ y ∈ B2, clsU x ≤ clsU y := fun x hx y hy => by
          have l2 := List.length_pos_of_mem hx
          have l1 := List.length_pos_of_mem hy
          obtain ⟨u, hu⟩ : ∃ u, A1[A1.length - 1]? = some u := ⟨_, List.getElem?_eq_getElem (by omega)⟩
          obtain ⟨v, hv⟩ : ∃ v, B2[0]? = some v := ⟨_, List.getElem?_eq_getElem l1⟩
          obtain ⟨k, hk⟩ := List.getElem?_of_mem hx
          obtain ⟨j, hj⟩ := List.getElem?_of_mem hy
          have hkl := (List.getElem?_eq_some_iff.1 hk).1
          have e1 : clsU x ≤ clsU u := Srt.le (i := k) (j := A1.length - 1) pA1 (by omega) hk hu
          have e2 : clsU v ≤ clsU y := Srt.le (i := 0) (j := j) pB2 (by omega) hv hj
          have hu2 : A[A1.length - 1]? = some u := by rw [hA12, List.getElem?_append_left (by omega)]; exact hu
          have hv2 : B[B1.length]? = some v := by rw [hB12, List.getElem?_append_right (Nat.le_refl _), Nat.sub_self]; exact hv
          have := H1.out (A1.length - 1) B1.length u v (by omega) (by omega) hu2 hv2
          omega
        have nzB1 : Nz B1 := fun x hx => hz x (by rw [hB12]; simp [hx])
        have nzL : Nz (A1 ++ B1) := fun x hx => hz x (by rw [hA12, hB12]; rcases List.mem_append.1 hx with h | h <;> simp [h])
        have nzR : Nz (A2 ++ B2) := fun x hx => hz x (by rw [hA12, hB12]; rcases List.mem_append.1 hx with h | h <;> simp [h])
        have sL : s = a ∨ s = mid → Srt (A1 ++ B1) := fun h => by
          rcases h with h | h
          · obtain rfl : A1 = [] := List.length_eq_zero_iff.1 (by omega)
            exact pB1
          · obtain rfl : B1 = [] := List.length_eq_zero_iff.1 (by omega)
            rw [List.append_nil]; exact pA1
        have sR : s = m ∨ e = b → Srt (A2 ++ B2) := fun h => by
          rcases h with h | h
          · obtain rfl : A2 = [] := List.length_eq_zero_iff.1 (by omega)
            exact pB2
          · obtain rfl : B2 = [] := List.length_eq_zero_iff.1 (by omega)
            rw [List.append_nil]; exact pA2
        have DONE : Aside0 (∀ L R, Stb (A1 ++ B1) L → Stb (A2 ++ B2) R → Stb (A ++ B) (L ++ R)) := ⟨fun L R hL hR => by rw [hA12, hB12]; exact stb_four nzB1 hsA hsB hL hR K1 K2⟩
        have HW : Win w0 blk pre post (X ++ (A1 ++ (A2 ++ (B1 ++ (B2 ++ Y))))) wr := by have := S1.out; rw [hA12, hB12] at this; simpa using this
        have hnl : n = X.length + (A1.length + (A2.length + (B1.length + (B2.length + Y.length)))) := by rw [HF.out, hA12, hB12]; simp only [List.length_append]; omega
        have HRot : Aside0 (s < m → m < e → ∀ W : World, Win w0 blk pre post (X ++ (A1 ++ (A2 ++ (B1 ++ (B2 ++ Y))))) W → Calls Tryd.prog 92 #[.slice (some ⟨blk, o, none⟩) n cap, .int .i64 (s : Int), .int .i64 (m : Int), .int .i64 (e : Int), .func (.func 62) #[] #[]] W fun e w' => e = .returned (.tuple #[]) ∧ Win w0 blk pre post (X ++ (A1 ++ (B1 ++ (A2 ++ (B2 ++ Y))))) w') := ⟨fun h1 h2 W hW => by
          have hl : ((X ++ A1) ++ (A2 ++ (B1 ++ (B2 ++ Y)))).length = n := by simp only [List.length_append]; omega
          have := rotate_any w0 blk cap pre post (X ++ A1) A2 B1 (B2 ++ Y) (.func (.func 62) #[] #[]) (by omega) (by omega) (by rw [hl]; exact hn) W (by simpa using hW)
          rw [hl, HO.out, show (X ++ A1).length = s by rw [List.length_append]; omega, show s + A2.length = m by omega, show m + B1.length = e by omega] at this
          simpa using this⟩
        have HLft : Aside0 (a < s → s < mid → ∀ W : World, Win w0 blk pre post (X ++ (A1 ++ (B1 ++ (A2 ++ (B2 ++ Y))))) W → Calls Tryd.prog 90 #[.slice (some ⟨blk, o, none⟩) n cap, .int .i64 (a : Int), .int .i64 (s : Int), .int .i64 (mid : Int), .func (.func 62) #[] #[]] W fun e w' => e = .returned (.tuple #[]) ∧ ∃ L, Stb (A1 ++ B1) L ∧ Aside0 (Win w0 blk pre post (X ++ (L ++ (A2 ++ (B2 ++ Y)))) w')) := ⟨fun h1 h2 W hW => by
          have hl : (X ++ (A1 ++ (B1 ++ (A2 ++ (B2 ++ Y))))).length = n := by simp only [List.length_append]; omega
          have := IH.out w0 blk cap pre post X A1 B1 (A2 ++ (B2 ++ Y)) (by have := HN.out; omega) (by omega) (by omega) nzL pA1 pB1 (by rw [hl]; exact hn) W hW
          rw [hl, HO.out, hA, show a + A1.length = s by omega, show s + B1.length = mid by omega] at this
          exact this.mono fun _ _ ⟨q1, L, q2, q3⟩ => ⟨q1, L, q2, ⟨q3⟩⟩⟩
        have HRgt : Aside0 (mid < e → e < b → ∀ (L : List Int), L.length = A1.length + B1.length → ∀ W : World, Win w0 blk pre post (X ++ (L ++ (A2 ++ (B2 ++ Y)))) W → Calls Tryd.prog 90 #[.slice (some ⟨blk, o, none⟩) n cap, .int .i64 (mid : Int), .int .i64 (e : Int), .int .i64 (b : Int), .func (.func 62) #[] #[]] W fun e w' => e = .returned (.tuple #[]) ∧ ∃ R, Stb (A2 ++ B2) R ∧ Aside0 (Win w0 blk pre post (X ++ (L ++ (R ++ Y))) w')) := ⟨fun h1 h2 L hL W hW => by
          have hl : ((X ++ L) ++ (A2 ++ (B2 ++ Y))).length = n := by simp only [List.length_append]; omega
          have := IH.out w0 blk cap pre post (X ++ L) A2 B2 Y (by have := HN.out; omega) (by omega) (by omega) nzR pA2 pB2 (by rw [hl]; exact hn) W (by simpa using hW)
          rw [hl, HO.out, show (X ++ L).length = mid by rw [List.length_append]; omega, show mid + A2.length = e by omega, show e + B2.length = b by omega] at this
          exact this.mono fun _ _ ⟨q1, R, q2, q3⟩ => ⟨q1, R, q2, ⟨by simpa using q3⟩⟩⟩
        have HNR : Aside0 (s = m ∨ s = mid → Win w0 blk pre post (X ++ (A1 ++ (B1 ++ (A2 ++ (B2 ++ Y))))) wr) := ⟨fun h => by
          rcases h with h | h
          · obtain rfl : A2 = [] := List.length_eq_zero_iff.1 (by omega)
            exact HW
          · obtain rfl : B1 = [] := List.length_eq_zero_iff.1 (by omega)
            exact HW⟩
        have LL : Aside0 ((A1 ++ B1).length = A1.length + B1.length) := ⟨List.length_append⟩
        have SL := Aside0.mk sL
        have SR := Aside0.mk sR
        have HE := Aside0.mk he
        replace HW := Aside0.mk HW
        have hm2 : s ≤ mid := by omega
        have hm3 : e ≤ b := by omega
        clear sL sR K1 K2 pA1 pA2 pA3 pB1 pB2 pB3 hsA hsB hz nzB1 nzL nzR hA hM hB hH hP hA1 hA2 hB1 hB2 hA12 hB12 hnl he S1 H1 H2 HZ HSA HSB HN hij IH HF HNN
        by_cases k : s < m
        · by_cases k : s < mid
          · by_cases k : a < s
            · by_cases k : e < b
              · have i1 : s < m := by assumption
                have i2 : m < e := by have := HE.out; omega
                have i3 : a < s := by omega
                have i4 : s < mid := by omega
                have i5 : mid < e := by have := HE.out; omega
                have i6 : e < b := by omega
                replace HRot := Aside0.mk (HRot.out i1 i2)
                replace HLft := Aside0.mk (HLft.out i3 i4)
                replace HRgt := Aside0.mk (HRgt.out i5 i6)
                clear HNR SL SR
                go_wp2_with (first | simp only [hez] | (go_at_call 92; (with_reducible refine (HRot.out _ HW.out).mono ?_); rintro e w' ⟨rfl, hw⟩; replace HW := Aside0.mk hw; clear hw) | (go_at_call 90; (with_reducible refine (HLft.out _ HW.out).mono ?_); rintro e w' ⟨rfl, L, hL, hw⟩; replace HW := hw; clear hw; replace LL := Aside0.mk (hL.len.trans LL.out); replace hL := Aside0.mk hL) | (go_at_call 90; (with_reducible refine (HRgt.out _ LL.out _ (by first | exact HW.out | (have := HW.out; simpa using this))).mono ?_); rintro e w' ⟨rfl, R, hR, hw⟩; replace HW := hw; clear hw; replace hR := Aside0.mk hR))
                go_end0
                exact ⟨rfl, _, DONE.out _ _ hL.out hR.out, by have := HW.out; simpa using this⟩
              · have i1 : s < m := by assumption
                have i2 : m < e := by have := HE.out; omega
                have i3 : a < s := by omega
                have i4 : s < mid := by omega
                have i5 : mid < e := by have := HE.out; omega
                have i6 : ¬ e < b := by omega
                replace HRot := Aside0.mk (HRot.out i1 i2)
                replace HLft := Aside0.mk (HLft.out i3 i4)
                have hR := Aside0.mk (Stb.refl (SR.out (by omega)))
                clear HNR SL SR HRgt
                go_wp2_with (first | simp only [hez] | (go_at_call 92; (with_reducible refine (HRot.out _ HW.out).mono ?_); rintro e w' ⟨rfl, hw⟩; replace HW := Aside0.mk hw; clear hw) | (go_at_call 90; (with_reducible refine (HLft.out _ HW.out).mono ?_); rintro e w' ⟨rfl, L, hL, hw⟩; replace HW := hw; clear hw; replace LL := Aside0.mk (hL.len.trans LL.out); replace hL := Aside0.mk hL))
                go_end0
                exact ⟨rfl, _, DONE.out _ _ hL.out hR.out, by have := HW.out; simpa using this⟩
            · by_cases k : e < b
              · have i1 : s < m := by assumption
                have i2 : m < e := by have := HE.out; omega
                have i3 : ¬ a < s := by omega
                have i4 : s < mid := by omega
                have i5 : mid < e := by have := HE.out; omega
                have i6 : e < b := by omega
                replace HRot := Aside0.mk (HRot.out i1 i2)
                have hL := Aside0.mk (Stb.refl (SL.out (by omega)))
                replace HRgt := Aside0.mk (HRgt.out i5 i6)
                clear HNR SL SR HLft
                go_wp2_with (first | simp only [hez] | (go_at_call 92; (with_reducible refine (HRot.out _ HW.out).mono ?_); rintro e w' ⟨rfl, hw⟩; replace HW := Aside0.mk hw; clear hw) | (go_at_call 90; (with_reducible refine (HRgt.out _ LL.out _ (by first | exact HW.out | (have := HW.out; simpa using this))).mono ?_); rintro e w' ⟨rfl, R, hR, hw⟩; replace HW := hw; clear hw; replace hR := Aside0.mk hR))
                go_end0
                exact ⟨rfl, _, DONE.out _ _ hL.out hR.out, by have := HW.out; simpa using this⟩
              · have i1 : s < m := by assumption
                have i2 : m < e := by have := HE.out; omega
                have i3 : ¬ a < s := by omega
                have i4 : s < mid := by omega
                have i5 : mid < e := by have := HE.out; omega
                have i6 : ¬ e < b := by omega
                replace HRot := Aside0.mk (HRot.out i1 i2)
                have hL := Aside0.mk (Stb.refl (SL.out (by omega)))
                have hR := Aside0.mk (Stb.refl (SR.out (by omega)))
                clear HNR SL SR HLft HRgt
                go_wp2_with (first | simp only [hez] | (go_at_call 92; (with_reducible refine (HRot.out _ HW.out).mono ?_); rintro e w' ⟨rfl, hw⟩; replace HW := Aside0.mk hw; clear hw))
                go_end0
                exact ⟨rfl, _, DONE.out _ _ hL.out hR.out, by have := HW.out; simpa using this⟩
          · by_cases k : a < s
            · by_cases k : e < b
              · have i1 : s < m := by assumption
                have i2 : ¬ m < e := by have := HE.out; omega
                have i3 : a < s := by omega
                have i4 : ¬ s < mid := by omega
                have i5 : mid < e := by have := HE.out; omega
                have i6 : e < b := by omega
                replace HW := Aside0.mk (HNR.out (by omega))
                have hL := Aside0.mk (Stb.refl (SL.out (by omega)))
                replace HW : Aside0 (Win w0 blk pre post (X ++ ((A1 ++ B1) ++ (A2 ++ (B2 ++ Y)))) _) := ⟨by have := HW.out; simpa using this⟩
                replace HRgt := Aside0.mk (HRgt.out i5 i6)
                clear HNR SL SR HRot HLft
                go_wp2_with (first | simp only [hez] | (go_at_call 90; (with_reducible refine (HRgt.out _ LL.out _ (by first | exact HW.out | (have := HW.out; simpa using this))).mono ?_); rintro e w' ⟨rfl, R, hR, hw⟩; replace HW := hw; clear hw; replace hR := Aside0.mk hR))
                go_end0
                exact ⟨rfl, _, DONE.out _ _ hL.out hR.out, by have := HW.out; simpa using this⟩
              · have i1 : s < m := by assumption
                have i2 : ¬ m < e := by have := HE.out; omega
                have i3 : a < s := by omega
                have i4 : ¬ s < mid := by omega
                have i5 : mid < e := by have := HE.out; omega
                have i6 : ¬ e < b := by omega
                replace HW := Aside0.mk (HNR.out (by omega))
                have hL := Aside0.mk (Stb.refl (SL.out (by omega)))
                replace HW : Aside0 (Win w0 blk pre post (X ++ ((A1 ++ B1) ++ (A2 ++ (B2 ++ Y)))) _) := ⟨by have := HW.out; simpa using this⟩
                have hR := Aside0.mk (Stb.refl (SR.out (by omega)))
                clear HNR SL SR HRot HLft HRgt
                go_wp2_with (first | simp only [hez])
                go_end0
                exact ⟨rfl, _, DONE.out _ _ hL.out hR.out, by have := HW.out; simpa using this⟩
            · by_cases k : e < b
              · have i1 : s < m := by assumption
                have i2 : ¬ m < e := by have := HE.out; omega
                have i3 : ¬ a < s := by omega
                have i4 : ¬ s < mid := by omega
                have i5 : mid < e := by have := HE.out; omega
                have i6 : e < b := by omega
                replace HW := Aside0.mk (HNR.out (by omega))
                have hL := Aside0.mk (Stb.refl (SL.out (by omega)))
                replace HW : Aside0 (Win w0 blk pre post (X ++ ((A1 ++ B1) ++ (A2 ++ (B2 ++ Y)))) _) := ⟨by have := HW.out; simpa using this⟩
                replace HRgt := Aside0.mk (HRgt.out i5 i6)
                clear HNR SL SR HRot HLft
                go_wp2_with (first | simp only [hez] | (go_at_call 90; (with_reducible refine (HRgt.out _ LL.out _ (by first | exact HW.out | (have := HW.out; simpa using this))).mono ?_); rintro e w' ⟨rfl, R, hR, hw⟩; replace HW := hw; clear hw; replace hR := Aside0.mk hR))
                go_end0
                exact ⟨rfl, _, DONE.out _ _ hL.out hR.out, by have := HW.out; simpa using this⟩
              · have i1 : s < m := by assumption
                have i2 : ¬ m < e := by have := HE.out; omega
                have i3 : ¬ a < s := by omega
                have i4 : ¬ s < mid := by omega
                have i5 : mid < e := by have := HE.out; omega
                have i6 : ¬ e < b := by omega
                replace HW := Aside0.mk (HNR.out (by omega))
                have hL := Aside0.mk (Stb.refl (SL.out (by omega)))
                replace HW : Aside0 (Win w0 blk pre post (X ++ ((A1 ++ B1) ++ (A2 ++ (B2 ++ Y)))) _) := ⟨by have := HW.out; simpa using this⟩
                have hR := Aside0.mk (Stb.refl (SR.out (by omega)))
                clear HNR SL SR HRot HLft HRgt
                go_wp2_with (first | simp only [hez])
                go_end0
                exact ⟨rfl, _, DONE.out _ _ hL.out hR.out, by have := HW.out; simpa using this⟩
        · by_cases k : s < mid
          · by_cases k : a < s
            · by_cases k : e < b
              · have i1 : ¬ s < m := by omega
                have i2 : m < e := by have := HE.out; omega
                have i3 : a < s := by omega
                have i4 : s < mid := by omega
                have i5 : ¬ mid < e := by have := HE.out; omega
                have i6 : e < b := by omega
                replace HW := Aside0.mk (HNR.out (by omega))
                replace HLft := Aside0.mk (HLft.out i3 i4)
                have hR := Aside0.mk (Stb.refl (SR.out (by omega)))
                clear HNR SL SR HRot HRgt
                go_wp2_with (first | simp only [hez] | (go_at_call 90; (with_reducible refine (HLft.out _ HW.out).mono ?_); rintro e w' ⟨rfl, L, hL, hw⟩; replace HW := hw; clear hw; replace LL := Aside0.mk (hL.len.trans LL.out); replace hL := Aside0.mk hL))
                go_end0
                exact ⟨rfl, _, DONE.out _ _ hL.out hR.out, by have := HW.out; simpa using this⟩
              · have i1 : ¬ s < m := by omega
                have i2 : m < e := by have := HE.out; omega
                have i3 : a < s := by omega
                have i4 : s < mid := by omega
                have i5 : ¬ mid < e := by have := HE.out; omega
                have i6 : ¬ e < b := by omega
                replace HW := Aside0.mk (HNR.out (by omega))
                replace HLft := Aside0.mk (HLft.out i3 i4)
                have hR := Aside0.mk (Stb.refl (SR.out (by omega)))
                clear HNR SL SR HRot HRgt
                go_wp2_with (first | simp only [hez] | (go_at_call 90; (with_reducible refine (HLft.out _ HW.out).mono ?_); rintro e w' ⟨rfl, L, hL, hw⟩; replace HW := hw; clear hw; replace LL := Aside0.mk (hL.len.trans LL.out); replace hL := Aside0.mk hL))
                go_end0
                exact ⟨rfl, _, DONE.out _ _ hL.out hR.out, by have := HW.out; simpa using this⟩
            · by_cases k : e < b
              · have i1 : ¬ s < m := by omega
                have i2 : m < e := by have := HE.out; omega
                have i3 : ¬ a < s := by omega
                have i4 : s < mid := by omega
                have i5 : ¬ mid < e := by have := HE.out; omega
                have i6 : e < b := by omega
                replace HW := Aside0.mk (HNR.out (by omega))
                have hL := Aside0.mk (Stb.refl (SL.out (by omega)))
                replace HW : Aside0 (Win w0 blk pre post (X ++ ((A1 ++ B1) ++ (A2 ++ (B2 ++ Y)))) _) := ⟨by have := HW.out; simpa using this⟩
                have hR := Aside0.mk (Stb.refl (SR.out (by omega)))
                clear HNR SL SR HRot HLft HRgt
                go_wp2_with (first | simp only [hez])
                go_end0
                exact ⟨rfl, _, DONE.out _ _ hL.out hR.out, by have := HW.out; simpa using this⟩
              · have i1 : ¬ s < m := by omega
                have i2 : m < e := by have := HE.out; omega
                have i3 : ¬ a < s := by omega
                have i4 : s < mid := by omega
                have i5 : ¬ mid < e := by have := HE.out; omega
                have i6 : ¬ e < b := by omega
                replace HW := Aside0.mk (HNR.out (by omega))
                have hL := Aside0.mk (Stb.refl (SL.out (by omega)))
                replace HW : Aside0 (Win w0 blk pre post (X ++ ((A1 ++ B1) ++ (A2 ++ (B2 ++ Y)))) _) := ⟨by have := HW.out; simpa using this⟩
                have hR := Aside0.mk (Stb.refl (SR.out (by omega)))
                clear HNR SL SR HRot HLft HRgt
                go_wp2_with (first | simp only [hez])
                go_end0
                exact ⟨rfl, _, DONE.out _ _ hL.out hR.out, by have := HW.out; simpa using this⟩
          · by_cases k : a < s
            · by_cases k : e < b
              · have i1 : ¬ s < m := by omega
                have i2 : ¬ m < e := by have := HE.out; omega
                have i3 : a < s := by omega
                have i4 : ¬ s < mid := by omega
                have i5 : ¬ mid < e := by have := HE.out; omega
                have i6 : e < b := by omega
                replace HW := Aside0.mk (HNR.out (by omega))
                have hL := Aside0.mk (Stb.refl (SL.out (by omega)))
                replace HW : Aside0 (Win w0 blk pre post (X ++ ((A1 ++ B1) ++ (A2 ++ (B2 ++ Y)))) _) := ⟨by have := HW.out; simpa using this⟩
                have hR := Aside0.mk (Stb.refl (SR.out (by omega)))
                clear HNR SL SR HRot HLft HRgt
                go_wp2_with (first | simp only [hez])
                go_end0
                exact ⟨rfl, _, DONE.out _ _ hL.out hR.out, by have := HW.out; simpa using this⟩
              · have i1 : ¬ s < m := by omega
                have i2 : ¬ m < e := by have := HE.out; omega
                have i3 : a < s := by omega
                have i4 : ¬ s < mid := by omega
                have i5 : ¬ mid < e := by have := HE.out; omega
                have i6 : ¬ e < b := by omega
                replace HW := Aside0.mk (HNR.out (by omega))
                have hL := Aside0.mk (Stb.refl (SL.out (by omega)))
                replace HW : Aside0 (Win w0 blk pre post (X ++ ((A1 ++ B1) ++ (A2 ++ (B2 ++ Y)))) _) := ⟨by have := HW.out; simpa using this⟩
                have hR := Aside0.mk (Stb.refl (SR.out (by omega)))
                clear HNR SL SR HRot HLft HRgt
                go_wp2_with (first | simp only [hez])
                go_end0
                exact ⟨rfl, _, DONE.out _ _ hL.out hR.out, by have := HW.out; simpa using this⟩
            · by_cases k : e < b
              · have i1 : ¬ s < m := by omega
                have i2 : ¬ m < e := by have := HE.out; omega
                have i3 : ¬ a < s := by omega
                have i4 : ¬ s < mid := by omega
                have i5 : ¬ mid < e := by have := HE.out; omega
                have i6 : e < b := by omega
                replace HW := Aside0.mk (HNR.out (by omega))
                have hL := Aside0.mk (Stb.refl (SL.out (by omega)))
                replace HW : Aside0 (Win w0 blk pre post (X ++ ((A1 ++ B1) ++ (A2 ++ (B2 ++ Y)))) _) := ⟨by have := HW.out; simpa using this⟩
                have hR := Aside0.mk (Stb.refl (SR.out (by omega)))
                clear HNR SL SR HRot HLft HRgt
                go_wp2_with (first | simp only [hez])
                go_end0
                exact ⟨rfl, _, DONE.out _ _ hL.out hR.out, by have := HW.out; simpa using this⟩
              · have i1 : ¬ s < m := by omega
                have i2 : ¬ m < e := by have := HE.out; omega
                have i3 : ¬ a < s := by omega
                have i4 : ¬ s < mid := by omega
                have i5 : ¬ mid < e := by have := HE.out; omega
                have i6 : ¬ e < b := by omega
                replace HW := Aside0.mk (HNR.out (by omega))
                have hL := Aside0.mk (Stb.refl (SL.out (by omega)))
                replace HW : Aside0 (Win w0 blk pre post (X ++ ((A1 ++ B1) ++ (A2 ++ (B2 ++ Y)))) _) := ⟨by have := HW.out; simpa using this⟩
                have hR := Aside0.mk (Stb.refl (SR.out (by omega)))
                clear HNR SL SR HRot HLft HRgt
                go_wp2_with (first | simp only [hez])
                go_end0
                exact ⟨rfl, _, DONE.out _ _ hL.out hR.out, by have := HW.out; simpa using this⟩
end Go.Proofs.YtncbbgmhmofhnaaDoor.Pr
end

section
namespace Go.Proofs.YtncbbgmhmofhnaaDoor.Pr
open Go.RowKit Go.Proofs.YtncbbgmhmofhnaaDoorW.PrintWords Go.Proofs.YtncbbgmhmofhnaaDoorW.PrintLast Go.Proofs.YtncbbgmhmofhnaaDoorW.PrintMore
set_option linter.unusedVariables false
set_option linter.unusedSimpArgs false

theorem sym_any : ∀ N : Nat, SymAt N
  | 0 => fun w0 blk cap pre post X A B Y hN hA hB => by omega
  | N + 1 => fun w0 blk cap pre post X A B Y hN hA hB hz hsA hsB hn W h => by
    by_cases h1 : A.length = 1
    · obtain ⟨x, rfl⟩ : ∃ x, A = [x] := List.length_eq_one_iff.1 h1
      exact sym_one w0 blk cap pre post X x B Y (fun y hy => hz y (List.mem_append_right _ hy)) hsB hn W h
    · by_cases h2 : B.length = 1
      · obtain ⟨x, rfl⟩ : ∃ x, B = [x] := List.length_eq_one_iff.1 h2
        exact sym_two w0 blk cap pre post X A x Y (by omega) (hz x (by simp)) hsA hn W h
      · exact sym_step N (sym_any N) w0 blk cap pre post X A B Y hN (by omega) (by omega) hz hsA hsB hn W h

def Full (k : Nat) (P : List (List Int)) : Prop := ∀ L ∈ P, L.length = k ∧ Srt L
theorem Full.len {k : Nat} : ∀ {P : List (List Int)}, Full k P → P.flatten.length = P.length * k
  | [], _ => by simp
  | L :: P, h => by
    have := Full.len (P := P) (fun M hM => h M (List.mem_cons_of_mem _ hM))
    rw [List.flatten_cons, List.length_append, this, (h L List.mem_cons_self).1, List.length_cons, Nat.succ_mul, Nat.add_comm]
theorem Full.snoc {k : Nat} {P : List (List Int)} {C : List Int} (h : Full k P) (hl : C.length = k) (hs : Srt C) : Full k (P ++ [C]) := fun L hL => by
  rcases List.mem_append.1 hL with hL | hL
  · exact h L hL
  · obtain rfl := List.mem_singleton.1 hL
    exact ⟨hl, hs⟩
theorem flatten_snoc (P : List (List Int)) (C : List Int) : (P ++ [C]).flatten = P.flatten ++ C := by simp
/-- D is sorted by pieces of k, and is d in another order. -/
structure Chunks (k : Nat) (d D : List Int) : Prop where
  so : So d D
  perm : D.Perm d
  pieces : ∃ P last, D = P.flatten ++ last ∧ Full k P ∧ last.length ≤ k ∧ Srt last
/-- Merging under way: pieces of 2 k ahead, of k behind. -/
structure Mrg (k : Nat) (d : List Int) (P R : List (List Int)) (last : List Int) : Prop where
  so : So d (P.flatten ++ (R.flatten ++ last))
  perm : (P.flatten ++ (R.flatten ++ last)).Perm d
  p : Full (2 * k) P
  r : Full k R
  l : last.length ≤ k
  s : Srt last
theorem Mrg.nz {k : Nat} {d last : List Int} {P R : List (List Int)} (h : Mrg k d P R last) (hz : Nz d) : Nz (R.flatten ++ last) := fun x hx => hz x (h.perm.mem_iff.1 (List.mem_append_right _ hx))
theorem Mrg.len {k : Nat} {d last : List Int} {P R : List (List Int)} (h : Mrg k d P R last) : P.flatten.length + (R.flatten.length + last.length) = d.length := by
  rw [← h.perm.length_eq]; simp
/-- Two whole pieces have been merged. -/
theorem Mrg.two {k : Nat} {d last L M C : List Int} {P R : List (List Int)} (h : Mrg k d P (L :: M :: R) last) (hC : Stb (L ++ M) C) : Mrg k d (P ++ [C]) R last := by
  have hL := (h.r L List.mem_cons_self).1
  have hM := (h.r M (List.mem_cons_of_mem _ List.mem_cons_self)).1
  have e1 : P.flatten ++ ((L :: M :: R).flatten ++ last) = P.flatten ++ ((L ++ M) ++ (R.flatten ++ last)) := by simp
  have e2 : (P ++ [C]).flatten ++ (R.flatten ++ last) = P.flatten ++ (C ++ (R.flatten ++ last)) := by simp
  have h1 := h.so
  have h2 := h.perm
  rw [e1] at h1 h2
  refine ⟨?_, ?_, h.p.snoc (by rw [hC.len, List.length_append]; omega) hC.srt, fun N hN => h.r N (List.mem_cons_of_mem _ (List.mem_cons_of_mem _ hN)), h.l, h.s⟩
  · rw [e2]; exact So.trans h1 (hC.so.app _ _)
  · rw [e2]; exact ((hC.perm.append_right _).append_left _).trans h2
/-- The last two have been merged. -/
theorem Mrg.end2 {k : Nat} {d last L C : List Int} {P : List (List Int)} (h : Mrg k d P [L] last) (hC : Stb (L ++ last) C) : Chunks (2 * k) d (P.flatten ++ C) := by
  have hL := (h.r L List.mem_cons_self).1
  have e1 : P.flatten ++ ([L].flatten ++ last) = P.flatten ++ ((L ++ last) ++ []) := by simp
  have e2 : P.flatten ++ C = P.flatten ++ (C ++ []) := by simp
  have h1 := h.so
  have h2 := h.perm
  have h3 := h.l
  rw [e1] at h1 h2
  refine ⟨?_, ?_, P, C, rfl, h.p, by rw [hC.len, List.length_append]; omega, hC.srt⟩
  · rw [e2]; exact So.trans h1 (hC.so.app _ _)
  · rw [e2]; exact ((hC.perm.append_right _).append_left _).trans h2
theorem Mrg.end2' {k : Nat} {d last L C : List Int} {P : List (List Int)} (h : Mrg k d P [L] last) (hl : last.length = k) (hC : Stb (L ++ last) C) : Mrg k d (P ++ [C]) [] [] := by
  have hL := (h.r L List.mem_cons_self).1
  have e1 : P.flatten ++ ([L].flatten ++ last) = P.flatten ++ ((L ++ last) ++ []) := by simp
  have e2 : (P ++ [C]).flatten ++ (([] : List (List Int)).flatten ++ []) = P.flatten ++ (C ++ []) := by simp
  have h1 := h.so
  have h2 := h.perm
  rw [e1] at h1 h2
  refine ⟨?_, ?_, h.p.snoc (by rw [hC.len, List.length_append]; omega) hC.srt, fun N hN => by simp at hN, by simp, List.Pairwise.nil⟩
  · rw [e2]; exact So.trans h1 (hC.so.app _ _)
  · rw [e2]; exact ((hC.perm.append_right _).append_left _).trans h2
theorem Mrg.end1 {k : Nat} {d L : List Int} {P : List (List Int)} (h : Mrg k d P [L] []) : Chunks (2 * k) d (P.flatten ++ L) := by
  have hL := h.r L List.mem_cons_self
  have e1 : P.flatten ++ ([L].flatten ++ []) = P.flatten ++ L := by simp
  have h1 := h.so
  have h2 := h.perm
  rw [e1] at h1 h2
  exact ⟨h1, h2, P, L, rfl, h.p, by omega, hL.2⟩
theorem Mrg.end0 {k : Nat} {d last : List Int} {P : List (List Int)} (h : Mrg k d P [] last) : Chunks (2 * k) d (P.flatten ++ last) := by
  have h1 := h.so
  have h2 := h.perm
  have h3 := h.l
  simp only [List.flatten_nil, List.nil_append] at h1 h2
  exact ⟨h1, h2, P, last, rfl, h.p, by omega, h.s⟩
theorem Chunks.start {k : Nat} {d D : List Int} (h : Chunks k d D) : ∃ R last, D = ([] : List (List Int)).flatten ++ (R.flatten ++ last) ∧ Mrg k d [] R last := by
  obtain ⟨R, last, e, hR, hl, hs⟩ := h.pieces
  have h1 := h.so
  have h2 := h.perm
  rw [e] at h1 h2
  exact ⟨R, last, by simpa using e, ⟨by simpa using h1, by simpa using h2, fun M hM => by simp at hM, hR, hl, hs⟩⟩
theorem Chunks.done {k : Nat} {d D : List Int} (h : Chunks k d D) (hk : 0 < k) (hl : D.length ≤ k) : Stb d D := by
  obtain ⟨R, last, e, hR, hll, hs⟩ := h.pieces
  refine ⟨h.so, h.perm, ?_⟩
  cases R with
  | nil => rw [e]; simpa using hs
  | cons L R =>
    have hL := hR L List.mem_cons_self
    have h3 : D.length = L.length + (R.flatten.length + last.length) := by rw [e]; simp [Nat.add_assoc]
    have h4 : R.flatten = [] := List.length_eq_zero_iff.1 (by omega)
    have h5 : last = [] := List.length_eq_zero_iff.1 (by omega)
    rw [e, List.flatten_cons, h4, h5]
    simpa using hL.2

set_option maxHeartbeats 4000000 in
set_option maxRecDepth 100000 in
theorem stable_any (w0 : World) (blk cap : Nat) (pre post : List Value) (d : List Int) (hz : Nz d) (hn : d.length ≤ 1000000) (W : World) (h : Win w0 blk pre post d W) :
    Calls Tryd.prog 75 #[.slice (some ⟨blk, pre.length, none⟩) d.length cap, .int .i64 (d.length : Int), .func (.func 62) #[] #[]] W fun e w' => e = .returned (.tuple #[]) ∧ ∃ C, Stb d C ∧ Win w0 blk pre post C w' := by
  obtain ⟨n, hnn⟩ : ∃ n, d.length = n := ⟨_, rfl⟩
  obtain ⟨o, ho⟩ : ∃ o, pre.length = o := ⟨_, rfl⟩
  rw [hnn] at hn
  rw [hnn, ho]
  have HN := Aside0.mk hnn
  have HO := Aside0.mk ho
  have S0 := Aside0.mk h
  have HZ := Aside0.mk hz
  clear h hnn ho hz
  go_enter Tryd.func75, Tryd.ntmps75
  go_wp2_with fail
  -- pieces of twenty
  go_loopw [7, 8] (fun va vb wr => ∃ (P : List (List Int)) (Y : List Int), va = .int .i64 (P.flatten.length : Int) ∧ vb = .int .i64 ((P.flatten.length : Int) + 20) ∧ Aside0 (Full 20 P ∧ So d (P.flatten ++ Y) ∧ (P.flatten ++ Y).Perm d) ∧ Aside0 (Win w0 blk pre post (P.flatten ++ Y) wr)) (fun va _ _ => n - (intOf va).toNat)
  case atStart => exact ⟨[], d, by rfl, by rfl, ⟨fun M hM => by simp at hM, So.refl _, .refl _⟩, ⟨by simpa using S0.out⟩⟩
  case round =>
    clear S0
    obtain ⟨P, Y, rfl, rfl, HP, S1⟩ := hrel
    obtain ⟨hP, hso, hpm⟩ := HP.out
    have hlen : P.flatten.length + Y.length = n := by rw [← HN.out, ← hpm.length_eq, List.length_append]
    obtain ⟨a, ha⟩ : ∃ a, P.flatten.length = a := ⟨_, rfl⟩
    rw [ha] at hlen ⊢
    by_cases hlt : a + 20 ≤ n
    · have hd : decide ((a : Int) + 20 ≤ (n : Int)) = true := decide_eq_true (by omega)
      obtain ⟨A, Y2, hY, hA⟩ : ∃ A Y2, Y = A ++ Y2 ∧ A.length = 20 := ⟨Y.take 20, Y.drop 20, (List.take_append_drop _ _).symm, by rw [List.length_take]; omega⟩
      subst hY
      have hc := insertion_any w0 blk cap pre post P.flatten A Y2 (fun x hx => HZ.out x (hpm.mem_iff.1 (by simp [hx]))) (by simp only [List.length_append] at hlen ⊢; omega) wr S1.out
      have en : (P.flatten ++ (A ++ Y2)).length = n := by simp only [List.length_append] at hlen ⊢; omega
      rw [en, HO.out, ha, hA, show ((a + 20 : Nat) : Int) = (a : Int) + 20 by omega] at hc
      replace hc := Aside0.mk hc
      have hlt' : (a : Int) + 20 ≤ (n : Int) := by omega
      clear S1 HP
      replace hso := Aside0.mk hso
      replace hpm := Aside0.mk hpm
      replace hlen := Aside0.mk hlen
      go_wp2_with (first | (go_at_call 89; (with_reducible refine hc.out.mono ?_); rintro e w' ⟨rfl, C, hC, hw⟩; replace hw := Aside0.mk hw; replace hC := Aside0.mk hC))
      go_roundw
      case rel => exact ⟨P ++ [C], Y2, by rw [flatten_snoc, List.length_append, hC.out.len, ha, hA]; rfl, by rw [flatten_snoc, List.length_append, hC.out.len, ha, hA]; rfl, ⟨hP.snoc (by rw [hC.out.len, hA]) hC.out.srt, by rw [flatten_snoc, List.append_assoc]; exact So.trans hso.out (hC.out.so.app _ _), by rw [flatten_snoc, List.append_assoc]; exact ((hC.out.perm.append_right _).append_left _).trans hpm.out⟩, ⟨by rw [flatten_snoc, List.append_assoc]; exact hw.out⟩⟩
      case measure => simp [intOf]; omega
    · have hd : decide ((a : Int) + 20 ≤ (n : Int)) = false := decide_eq_false (by omega)
      have hc := insertion_any w0 blk cap pre post P.flatten Y [] (fun x hx => HZ.out x (hpm.mem_iff.1 (by simp [hx]))) (by simp only [List.append_nil, List.length_append]; omega) wr (by simpa using S1.out)
      have en : (P.flatten ++ (Y ++ [])).length = n := by simp only [List.append_nil, List.length_append]; omega
      rw [en, HO.out, ha, show ((a + Y.length : Nat) : Int) = (n : Int) by omega] at hc
      have hc2 : Calls Tryd.prog 89 #[.slice (some ⟨blk, o, none⟩) n cap, .int .i64 (a : Int), .int .i64 (n : Int), .func (.func 62) #[] #[]] wr fun e w' => e = .returned (.tuple #[]) ∧ ∃ D, Aside0 (Chunks 20 d D) ∧ Aside0 (Win w0 blk pre post D w') := hc.mono fun e w' ⟨q1, C, hC, hw⟩ => ⟨q1, P.flatten ++ C, ⟨So.trans hso (hC.so.left _), (hC.perm.append_left _).trans hpm, P, C, rfl, hP, by rw [hC.len]; omega, hC.srt⟩, ⟨by simpa using hw⟩⟩
      replace hc2 := Aside0.mk hc2
      have hlt' : ¬ (a : Int) + 20 ≤ (n : Int) := by omega
      clear S1 HP hc hso hpm hlen hP ha hlt
      go_wp2_with (first | (go_at_call 89; (with_reducible refine hc2.out.mono ?_); rintro e w2 ⟨rfl, D, hC, hw⟩))
      clear hc2
      go_loopw [6] (fun vk wr => ∃ (k : Nat) (D : List Int), vk = .int .i64 (k : Int) ∧ Aside0 (20 ≤ k ∧ k ≤ 4000000) ∧ Aside0 (Chunks k d D) ∧ Aside0 (Win w0 blk pre post D wr)) (fun vk _ => n - (intOf vk).toNat)
      case atStart => exact ⟨20, D, rfl, ⟨by omega, by omega⟩, hC, hw⟩
      case round =>
        clear hC hw
        obtain ⟨k, D, rfl, HK, HC, S2⟩ := hrel
        have hD : D.length = n := by rw [HC.out.perm.length_eq, HN.out]
        by_cases hkn : k < n
        · obtain ⟨R, last, hDe, hM⟩ := HC.out.start
          subst hDe
          replace HM := Aside0.mk hM
          have hk2 : k ≤ 1000000 := by omega
          have hk20 : 20 ≤ k := HK.out.1
          clear HC hM hD HK
          go_wp2_with fail
          go_loopw [7, 8] (fun va vb wr => ∃ (P R : List (List Int)) (last : List Int), va = .int .i64 (P.flatten.length : Int) ∧ vb = .int .i64 ((P.flatten.length : Int) + 2 * (k : Int)) ∧ Aside0 (Mrg k d P R last) ∧ Aside0 (Win w0 blk pre post (P.flatten ++ (R.flatten ++ last)) wr)) (fun va _ _ => n - (intOf va).toNat)
          case atStart => exact ⟨[], R, last, by rfl, by simp, HM, S2⟩
          case round =>
            clear S2 HM R last
            obtain ⟨P, R, last, rfl, rfl, HM, S3⟩ := hrel
            have hml := HM.out.len
            rw [HN.out] at hml
            have hnz := HM.out.nz HZ.out
            obtain ⟨a, ha⟩ : ∃ a, P.flatten.length = a := ⟨_, rfl⟩
            rw [ha] at hml ⊢
            have hll := HM.out.l
            have han : a ≤ n := by omega
            by_cases hlt : a + 2 * k ≤ n
            · have hc : Calls Tryd.prog 90 #[.slice (some ⟨blk, o, none⟩) n cap, .int .i64 (a : Int), .int .i64 ((a : Int) + (k : Int)), .int .i64 ((a : Int) + 2 * (k : Int)), .func (.func 62) #[] #[]] wr fun e w' => e = .returned (.tuple #[]) ∧ ∃ (P2 R2 : List (List Int)) (last2 : List Int), Aside0 (P2.flatten.length = a + 2 * k) ∧ Aside0 (Mrg k d P2 R2 last2) ∧ Aside0 (Win w0 blk pre post (P2.flatten ++ (R2.flatten ++ last2)) w') := by
                match R, HM, S3, hml, hnz with
                | [], HM, S3, hml, hnz => rw [List.flatten_nil, List.length_nil] at hml; omega
                | [L], HM, S3, hml, hnz =>
                  have hfl : [L].flatten.length = L.length := by simp
                  have hL := HM.out.r L List.mem_cons_self
                  have hlk : last.length = k := by have := hL.1; omega
                  have hw : Win w0 blk pre post (P.flatten ++ (L ++ (last ++ []))) wr := by have := S3.out; simpa using this
                  have en : (P.flatten ++ (L ++ (last ++ []))).length = n := by simp only [List.length_append, List.length_nil]; omega
                  have := sym_any (L.length + last.length) w0 blk cap pre post P.flatten L last [] (Nat.le_refl _) (by omega) (by omega) (by simpa using hnz) hL.2 HM.out.s (by rw [en]; exact hn) wr hw
                  rw [en, HO.out, ha, hL.1, hlk, show ((a + k : Nat) : Int) = (a : Int) + (k : Int) by omega, show ((a + k + k : Nat) : Int) = (a : Int) + 2 * (k : Int) by omega] at this
                  exact this.mono fun e w' ⟨q1, C, hC, hw⟩ => ⟨q1, P ++ [C], [], [], ⟨by rw [flatten_snoc, List.length_append, hC.len, List.length_append, ha]; omega⟩, ⟨HM.out.end2' hlk hC⟩, ⟨by rw [flatten_snoc]; simpa using hw⟩⟩
                | L :: M :: R, HM, S3, hml, hnz =>
                  have hL := HM.out.r L List.mem_cons_self
                  have hMm := HM.out.r M (List.mem_cons_of_mem _ List.mem_cons_self)
                  have hw : Win w0 blk pre post (P.flatten ++ (L ++ (M ++ (R.flatten ++ last)))) wr := by have := S3.out; simpa using this
                  have en : (P.flatten ++ (L ++ (M ++ (R.flatten ++ last)))).length = n := by simp only [List.flatten_cons, List.length_append] at hml ⊢; omega
                  have := sym_any (L.length + M.length) w0 blk cap pre post P.flatten L M (R.flatten ++ last) (Nat.le_refl _) (by omega) (by omega) (fun x hx => hnz x (by rcases List.mem_append.1 hx with h | h <;> simp [h])) hL.2 hMm.2 (by rw [en]; exact hn) wr hw
                  rw [en, HO.out, ha, hL.1, hMm.1, show ((a + k : Nat) : Int) = (a : Int) + (k : Int) by omega, show ((a + k + k : Nat) : Int) = (a : Int) + 2 * (k : Int) by omega] at this
                  exact this.mono fun e w' ⟨q1, C, hC, hw⟩ => ⟨q1, P ++ [C], R, last, ⟨by rw [flatten_snoc, List.length_append, hC.len, List.length_append, ha]; omega⟩, ⟨HM.out.two hC⟩, ⟨by rw [flatten_snoc]; simpa using hw⟩⟩
              have hd : decide ((a : Int) + 2 * (k : Int) ≤ (n : Int)) = true := decide_eq_true (by omega)
              have hlt' : (a : Int) + 2 * (k : Int) ≤ (n : Int) := by omega
              replace hc := Aside0.mk hc
              clear HM S3 hml hnz hll ha
              go_wp2_with (first | (go_at_call 90; (with_reducible refine hc.out.mono ?_); rintro e w' ⟨rfl, P2, R2, last2, hp2, hM2, hw2⟩))
              go_roundw
              case rel => exact ⟨P2, R2, last2, by rw [hp2.out]; (first | rfl | (congr 1; omega)), by rw [hp2.out]; (first | rfl | (congr 1; done) | (congr 1; omega)), hM2, hw2⟩
              case measure => simp [intOf]; omega
            · have hd : decide ((a : Int) + 2 * (k : Int) ≤ (n : Int)) = false := decide_eq_false (by omega)
              have hlt' : ¬ (a : Int) + 2 * (k : Int) ≤ (n : Int) := by omega
              by_cases hkm : a + k < n
              · have hc : Calls Tryd.prog 90 #[.slice (some ⟨blk, o, none⟩) n cap, .int .i64 (a : Int), .int .i64 ((a : Int) + (k : Int)), .int .i64 (n : Int), .func (.func 62) #[] #[]] wr fun e w' => e = .returned (.tuple #[]) ∧ ∃ D : List Int, Aside0 (Chunks (2 * k) d D) ∧ Aside0 (Win w0 blk pre post D w') := by
                  match R, HM, S3, hml, hnz with
                  | [], HM, S3, hml, hnz => rw [List.flatten_nil, List.length_nil] at hml; omega
                  | [L], HM, S3, hml, hnz =>
                    have hfl : [L].flatten.length = L.length := by simp
                    have hL := HM.out.r L List.mem_cons_self
                    have hll2 : a + (k + last.length) = n := by have := hL.1; omega
                    have hw : Win w0 blk pre post (P.flatten ++ (L ++ (last ++ []))) wr := by have := S3.out; simpa using this
                    have en : (P.flatten ++ (L ++ (last ++ []))).length = n := by simp only [List.length_append, List.length_nil]; omega
                    have := sym_any (L.length + last.length) w0 blk cap pre post P.flatten L last [] (Nat.le_refl _) (by omega) (by omega) (by simpa using hnz) hL.2 HM.out.s (by rw [en]; exact hn) wr hw
                    rw [en, HO.out, ha, hL.1, show ((a + k : Nat) : Int) = (a : Int) + (k : Int) by omega, show ((a + k + last.length : Nat) : Int) = (n : Int) by omega] at this
                    exact this.mono fun e w' ⟨q1, C, hC, hw⟩ => ⟨q1, P.flatten ++ C, ⟨HM.out.end2 hC⟩, ⟨by simpa using hw⟩⟩
                  | L :: M :: R, HM, S3, hml, hnz =>
                    have hL := HM.out.r L List.mem_cons_self
                    have hMm := HM.out.r M (List.mem_cons_of_mem _ List.mem_cons_self)
                    simp only [List.flatten_cons, List.length_append] at hml
                    omega
                have hkm' : (a : Int) + (k : Int) < (n : Int) := by omega
                have hd2 : decide ((a : Int) + (k : Int) < (n : Int)) = true := decide_eq_true hkm'
                replace hc := Aside0.mk hc
                clear HM S3 hml hnz hll ha
                go_wp2_with (first | (go_at_call 90; (with_reducible refine hc.out.mono ?_); rintro e w' ⟨rfl, D, hD, hw⟩))
                go_roundw
                case rel => exact ⟨2 * k, D, by (congr 1; omega), ⟨by omega, by omega⟩, hD, hw⟩
                case measure => simp [intOf]; omega
              · have hE : ∃ D : List Int, Aside0 (Chunks (2 * k) d D) ∧ Aside0 (Win w0 blk pre post D wr) := by
                  match R, HM, S3, hml, hnz with
                  | [], HM, S3, hml, hnz => exact ⟨_, ⟨HM.out.end0⟩, ⟨by have := S3.out; simpa using this⟩⟩
                  | [L], HM, S3, hml, hnz =>
                    have hfl : [L].flatten.length = L.length := by simp
                    have hL := HM.out.r L List.mem_cons_self
                    obtain rfl : last = [] := List.length_eq_zero_iff.1 (by have := hL.1; omega)
                    exact ⟨_, ⟨HM.out.end1⟩, ⟨by have := S3.out; simpa using this⟩⟩
                  | L :: M :: R, HM, S3, hml, hnz =>
                    have hL := HM.out.r L List.mem_cons_self
                    have hMm := HM.out.r M (List.mem_cons_of_mem _ List.mem_cons_self)
                    simp only [List.flatten_cons, List.length_append] at hml
                    omega
                obtain ⟨D, hD, hw⟩ := hE
                have hkm' : ¬ (a : Int) + (k : Int) < (n : Int) := by omega
                have hd2 : decide ((a : Int) + (k : Int) < (n : Int)) = false := decide_eq_false hkm'
                clear HM S3 hml hnz hll ha
                go_wp2_with fail
                go_roundw
                case rel => exact ⟨2 * k, D, by (congr 1; omega), ⟨by omega, by omega⟩, hD, hw⟩
                case measure => simp [intOf]; omega
        · have HS : Aside0 (Stb d D) := ⟨HC.out.done (by have := HK.out; omega) (by omega)⟩
          have hd : decide ((k : Int) < (n : Int)) = false := decide_eq_false (by omega)
          clear HC HK hD
          go_wp2_with fail
          go_end0
          exact ⟨rfl, D, HS.out, S2.out⟩
end Go.Proofs.YtncbbgmhmofhnaaDoor.Pr
end

section
namespace Go.Proofs.YtncbbgmhmofhnaaDoor.Pr
open Go.RowKit Go.Proofs.YtncbbgmhmofhnaaDoorW.PrintWords Go.Proofs.YtncbbgmhmofhnaaDoorW.PrintLast Go.Proofs.YtncbbgmhmofhnaaDoorW.PrintMore
set_option linter.unusedVariables false
set_option linter.unusedSimpArgs false

set_option maxRecDepth 100000 in
set_option maxHeartbeats 1000000 in
theorem sortStable_any (w0 : World) (blk cap : Nat) (pre post : List Value) (d : List Int) (hz : Nz d) (hn : d.length ≤ 1000000) (W : World) (h : Win w0 blk pre post d W) :
    Calls Tryd.prog 61 #[.slice (some ⟨blk, pre.length, none⟩) d.length cap, .func (.func 62) #[] #[]] W fun e w' => e = .returned (.tuple #[]) ∧ ∃ C, Stb d C ∧ Win w0 blk pre post C w' := by
  have hc := stable_any w0 blk cap pre post d hz hn W h
  obtain ⟨n, hnn⟩ : ∃ n, d.length = n := ⟨_, rfl⟩
  obtain ⟨o, ho⟩ : ∃ o, pre.length = o := ⟨_, rfl⟩
  rw [hnn, ho] at hc
  rw [hnn, ho]
  rw [hnn] at hn
  replace hc := Aside0.mk hc
  clear hnn ho h
  go_enter Tryd.func61, Tryd.ntmps61
  go_wp2_with (first | (go_at_call 75; (with_reducible refine hc.out.mono ?_); rintro e w' ⟨rfl, C, hC, hw⟩))
  go_end0
  exact ⟨rfl, C, hC, hw⟩
/-- What is ordered so far: P, and it ends so that all may stand behind it. -/
structure Ordg (d D P T : List Int) : Prop where
  eq : D = P ++ T
  so : So d D
  perm : D.Perm d
  srt : SrtR clsU P.reverse
  wall : ∀ z, P.getLast? = some z → clsU z = 0
theorem srtR_app {s t : List Int} : SrtR clsU s → SrtR clsU t → (∀ u v, s.getLast? = some u → t.head? = some v → okN clsU v u) → SrtR clsU (s ++ t) := by
  induction s with
  | nil => exact fun _ h _ => h
  | cons x s ih =>
    intro hs ht h
    cases s with
    | nil =>
      cases t with
      | nil => exact hs
      | cons y t => exact ⟨h x y rfl rfl, ht⟩
    | cons y s => exact ⟨hs.1, ih hs.2 ht (fun u v hu hv => h u v (by simpa using hu) hv)⟩
theorem srtR_of : ∀ {l : List Int}, Srt l → SrtR clsU l.reverse := by
  intro l
  induction l with
  | nil => exact fun _ => trivial
  | cons x l ih =>
    intro h
    rw [List.reverse_cons]
    refine srtR_app (ih (List.pairwise_cons.1 h).2) trivial (fun u v hu hv => ?_)
    obtain rfl : x = v := by simpa using hv
    have hm : u ∈ l := by
      have := List.mem_of_getLast? hu
      simpa using this
    have := (List.pairwise_cons.1 h).1 u hm
    exact fun hh => by omega
theorem Ordg.start (d : List Int) : Ordg d d [] d := ⟨rfl, So.refl _, .refl _, trivial, fun z h => by simp at h⟩
/-- A run has been sorted, one of class 0 stands behind it. -/
theorem Ordg.step {d D P A C T : List Int} {z : Int} (h : Ordg d D P (A ++ z :: T)) (hC : Stb A C) (hz : clsU z = 0) : Ordg d (P ++ (C ++ z :: T)) (P ++ (C ++ [z])) T := by
  have h1 := h.so
  have h2 := h.perm
  rw [h.eq] at h1 h2
  refine ⟨by simp, So.trans h1 (hC.so.app _ _), ((hC.perm.append_right _).append_left _).trans h2, ?_, fun y hy => ?_⟩
  · rw [List.reverse_append, List.reverse_append]
    refine srtR_app ?_ h.srt (fun u v hu hv => ?_)
    · refine srtR_app (s := [z].reverse) trivial (srtR_of hC.srt) (fun u v hu hv => ?_)
      obtain rfl : z = u := by simpa using hu
      exact fun hh => hh.1 hz
    · have : clsU v = 0 := h.wall v (by rw [List.head?_reverse] at hv; exact hv)
      have := clsU_pos u
      exact fun hh => by omega
  · obtain rfl : z = y := by simpa using hy
    exact hz
/-- The last run. -/
theorem Ordg.last {d D P A C : List Int} (h : Ordg d D P A) (hC : Stb A C) : P ++ C = ordM clsU d := by
  have h1 := h.so
  have h2 := h.perm
  rw [h.eq] at h1 h2
  have hs : So d (P ++ C) := So.trans h1 (hC.so.left _)
  have e := hs [] []
  simp only [List.nil_append, List.append_nil] at e
  rw [e]
  refine (ordM_srt clsU _ ?_).symm
  rw [List.reverse_append]
  refine srtR_app (srtR_of hC.srt) h.srt (fun u v hu hv => ?_)
  have : clsU v = 0 := h.wall v (by rw [List.head?_reverse] at hv; exact hv)
  have := clsU_pos u
  exact fun hh => by omega
theorem Win.in_ {w0 W : World} {blk : Nat} {pre post : List Value} {X A Y : List Int} (h : Win w0 blk pre post (X ++ (A ++ Y)) W) : Win w0 blk (pre ++ X.map encR) (Y.map encR ++ post) A W := ⟨h.turned, by have := h.row; simpa using this⟩
theorem Win.out_ {w0 W : World} {blk : Nat} {pre post : List Value} {X A Y : List Int} (h : Win w0 blk (pre ++ X.map encR) (Y.map encR ++ post) A W) : Win w0 blk pre post (X ++ (A ++ Y)) W := ⟨h.turned, by have := h.row; simpa using this⟩
theorem reps_ints {w : World} {base : Nat} {ok : Nat → Prop} : ∀ {xs : List Int} {inner : List Value}, Reps ((Kd.int .i32).M w base ok) 1 xs inner → inner = xs.map encR := by
  intro xs inner h
  refine List.ext_getElem? fun j => ?_
  rw [List.getElem?_map]
  cases hj : xs[j]? with
  | none => rw [List.getElem?_eq_none_iff] at hj; rw [Option.map_none, List.getElem?_eq_none_iff, h.1]; omega
  | some p =>
    have h2 := h.2 j p hj
    have h3 : (inner.drop (j * 1)).take 1 = [Value.int .i32 p] := h2
    rw [Nat.mul_one] at h3
    have h4 := congrArg (fun l => l[0]?) h3
    simp only [List.getElem?_take, List.getElem?_drop] at h4
    simpa [encR] using h4
theorem ints_reps {w : World} {base : Nat} {ok : Nat → Prop} (xs : List Int) : Reps ((Kd.int .i32).M w base ok) 1 xs (xs.map encR) := by
  refine ⟨by simp, fun j p hj => ?_⟩
  show _ = [Value.int .i32 p]
  refine List.ext_getElem? fun i => ?_
  rw [Nat.mul_one, List.getElem?_take]
  by_cases hi : i < 1
  · obtain rfl : i = 0 := by omega
    rw [if_pos (by omega), List.getElem?_drop, List.getElem?_map, Nat.add_zero, hj]
    rfl
  · rw [if_neg hi, List.getElem?_eq_none (by simp; omega)]
/-- A row of the call's own, laid open. -/
theorem win_of {W : World} {base : Nat} {ok : Nat → Prop} {v : Value} {xs : List Int} (h : Kd.R (Kd.int .i32) 21 W base ok v xs) (hne : 0 < xs.length) :
    ∃ (g cap : Nat) (rest : List Value), v = .slice (some ⟨g, 0, none⟩) xs.length cap ∧ base ≤ g ∧ ok g ∧ xs.length + rest.length = cap ∧ cap ≤ maxLen ∧ W.heap[g]? = some (.cells ([] ++ (xs.map encR ++ rest)).toArray 21 (0, 0)) := by
  obtain ⟨h0, inner, ⟨_, h1⟩, h2⟩ := h
  rcases h1 with ⟨_, hn⟩ | ⟨g, cap, cur, rfl, hb, hh, hle, hm, hs, ht⟩
  · omega
  · obtain rfl := reps_ints h2
    have hs1 : cur.size = cap := by rw [hs]; exact Nat.mul_one _
    have ht1 : cur.toList.take xs.length = xs.map encR := by
      have e : xs.length * (Kd.int .i32).sz = xs.length := Nat.mul_one _
      rw [e] at ht
      exact ht
    refine ⟨g, cap, cur.toList.drop xs.length, rfl, hb, h0 g (by simp [Value.ownBlock]), by simp; omega, hm, ?_⟩
    rw [List.nil_append, ← ht1, List.take_append_drop]
    simpa using hh
theorem of_win {W : World} {base g cap : Nat} {rest : List Value} {xs : List Int} (h : W.heap[g]? = some (.cells ([] ++ (xs.map encR ++ rest)).toArray 21 (0, 0))) (hb : base ≤ g) (hc : xs.length + rest.length = cap) (hm : cap ≤ maxLen) :
    Kd.R (Kd.int .i32) 21 W base (fun _ => True) (.slice (some ⟨g, 0, none⟩) xs.length cap) xs := by
  have e : xs.length * (Kd.int .i32).sz = xs.length := Nat.mul_one _
  refine ⟨fun _ _ => trivial, xs.map encR, ⟨by rw [e]; simp, .inr ⟨g, cap, _, rfl, hb, h, by omega, hm, ?_, ?_⟩⟩, ints_reps xs⟩
  · show _ = cap * 1
    simp; omega
  · rw [e]; simp

set_option maxRecDepth 100000 in
set_option maxHeartbeats 4000000 in
theorem order_any (A0 : Option Addr) (c0 : Nat) (l0 : List Int) (w : World) (hr0 : Kd.C (Kd.int .i32) w A0 l0.length l0) (hc0 : l0.length ≤ c0) (hl : l0.length ≤ 1000000) :
    Calls Tryd.prog 40 #[.slice A0 l0.length c0] w fun e w' => ∃ v0_ : Value, e = .returned (v0_) ∧ Kd.R (Kd.int .i32) 21 w' w.heap.size (fun _ => True) v0_ (ordM clsU l0) ∧ Below w.heap.size w w' := by
  have hcl := clone_any A0 c0 l0 w hr0 hc0 hl
  obtain ⟨n, hn⟩ : ∃ n, l0.length = n := ⟨_, rfl⟩
  by_cases h0 : l0 = []
  · subst h0
    rw [List.length_nil] at hn
    subst hn
    replace hcl : Aside0 (Calls Tryd.prog 59 #[.slice A0 0 c0] w fun e w' => ∃ (A : Option Addr) (c : Nat), e = .returned (.slice A 0 c) ∧ Kd.R (Kd.int .i32) 21 w' w.heap.size (fun _ => True) (.slice A 0 c) ([] : List Int) ∧ Below w.heap.size w w') := ⟨hcl.mono fun e w' ⟨v, he, hR, hB⟩ => by
      obtain ⟨A, c, rfl⟩ := Kd.R_slice hR
      exact ⟨A, c, he, hR, hB⟩⟩
    clear hr0
    show Calls Tryd.prog 40 #[.slice A0 0 c0] w _
    go_enter Tryd.func40, Tryd.ntmps40
    go_wp2_with (first | (go_at_call 59; (with_reducible refine hcl.out.mono ?_); rintro e w1 ⟨A, c, rfl, hR, hB⟩))
    clear hcl
    go_loopw [4] (fun vi wr => vi = .int .i64 0 ∧ wr = w1) (fun _ _ => 0)
    case atStart => exact ⟨rfl, rfl⟩
    case round =>
      obtain ⟨rfl, rfl⟩ := hrel
      go_wp2_with fail
      go_ret
      exact ⟨_, rfl, hR, hB⟩
  · have hpos : 0 < l0.length := List.length_pos_iff.2 h0
    replace hcl : Aside0 (Calls Tryd.prog 59 #[.slice A0 n c0] w fun e w' => ∃ (g cap : Nat) (rest : List Value), e = .returned (.slice (some ⟨g, 0, none⟩) n cap) ∧ n ≤ cap ∧ Aside0 (w.heap.size ≤ g ∧ n + rest.length = cap ∧ cap ≤ maxLen) ∧ Aside0 (Win w' g [] rest l0 w') ∧ Below w.heap.size w w') := ⟨by
      rw [hn] at hcl
      refine hcl.mono fun e w' ⟨v, he, hR, hB⟩ => ?_
      obtain ⟨g, cap, rest, rfl, h1, _, h2, h3, h4⟩ := win_of hR hpos
      rw [hn] at he h2
      exact ⟨g, cap, rest, he, by omega, ⟨h1, h2, h3⟩, ⟨⟨Turned.refl _ _, h4⟩⟩, hB⟩⟩
    rw [hn]
    rw [hn] at hl
    replace hn := Aside0.mk hn
    clear hr0 h0 hpos
    go_enter Tryd.func40, Tryd.ntmps40
    go_wp2_with (first | (go_at_call 59; (with_reducible refine hcl.out.mono ?_); rintro e w1 ⟨g, cap, rest, rfl, hncap, hcap, HW0, hB⟩))
    clear hcl
    have hB := Aside0.mk hB
    go_loopw [4] (fun vi wr => ∃ (i : Nat) (D P T : List Int), vi = .int .i64 (i : Int) ∧ i ≤ n + 1 ∧ Aside0 ((Ordg l0 D P T ∧ i = P.length) ∨ (i = n + 1 ∧ D = ordM clsU l0)) ∧ Aside0 (D.length = n) ∧ Aside0 (Win w1 g [] rest D wr)) (fun vi _ => n + 1 - (intOf vi).toNat)
    case atStart => exact ⟨0, l0, [], l0, by rfl, by omega, ⟨.inl ⟨Ordg.start _, rfl⟩⟩, hn, HW0⟩
    case round =>
      clear HW0
      obtain ⟨i, D, P, T, rfl, hin, HO, HL, HW⟩ := hrel
      by_cases hlt : i < n
      · obtain ⟨hO, hiP⟩ : Ordg l0 D P T ∧ i = P.length := by
          rcases HO.out with h | ⟨h, _⟩
          · exact h
          · omega
        have hPT : P.length + T.length = n := by rw [← HL.out, hO.eq, List.length_append]
        -- the run
        have HT := Aside0.mk hO
        have HP := Aside0.mk hiP
        replace hPT := Aside0.mk hPT
        have HW0 := HW
        clear HO hO hiP
        go_wp2_with fail
        go_loopw [5] (fun vk wr => ∃ (A T2 : List Int), vk = .int .i64 ((i : Int) + (A.length : Int)) ∧ Aside0 (T = A ++ T2 ∧ Nz A) ∧ Aside0 (Win w1 g [] rest D wr)) (fun vk _ => n - (intOf vk).toNat)
        case atStart => exact ⟨[], T, by simp, ⟨rfl, fun x hx => by simp at hx⟩, HW0⟩
        case round =>
          clear HW0 HW
          obtain ⟨A, T2, rfl, HA, HW⟩ := hrel
          have hlen : i + (A.length + T2.length) = n := by have h1 := hPT.out; have h2 := HP.out; rw [HA.out.1, List.length_append] at h1; omega
          have hD : D = P ++ (A ++ T2) := by rw [HT.out.eq, HA.out.1]
          have HS : ∀ W c', Win w1 g [] rest D W → Calls Tryd.prog 61 #[.slice (some ⟨g, i, none⟩) A.length c', .func (.func 62) #[] #[]] W fun e w' => e = .returned (.tuple #[]) ∧ ∃ C, Stb A C ∧ Aside0 (Win w1 g [] rest (P ++ (C ++ T2)) w') := fun W c' hw => by
            rw [hD] at hw
            have := sortStable_any w1 g c' ([] ++ P.map encR) (T2.map encR ++ rest) A HA.out.2 (by omega) W hw.in_
            have ei : (([] : List Value) ++ P.map encR).length = i := by simp [HP.out]
            rw [ei] at this
            exact this.mono fun e w' ⟨q1, C, hC, hw⟩ => ⟨q1, C, hC, ⟨hw.out_⟩⟩
          replace HS := Aside0.mk HS
          cases T2 with
          | nil =>
            have hlen2 : i + A.length = n := by simpa using hlen
            have e2 : (i : Int) + (A.length : Int) = (n : Int) := by omega
            have e3 : (i : Int) + (A.length : Int) ≤ (cap : Int) := by omega
            have hd : decide ((i : Int) + (A.length : Int) < (n : Int)) = false := decide_eq_false (by omega)
            have hi0 : (i : Int) ≤ (i : Int) + (A.length : Int) := by omega
            have hAl : A.length = n - i := by omega
            have HTA : Aside0 (Ordg l0 D P A) := ⟨by have := HT.out; rw [HA.out.1, List.append_nil] at this; exact this⟩
            have HS2 := HS.out wr (cap - i) HW.out
            rw [hAl] at HS2
            replace HS2 := Aside0.mk HS2
            have hiw : IntKind.i64.wrap ((n : Int) + 1) = (n : Int) + 1 := by rw [IntKind.wrap_i64]; omega
            clear hlen2 hAl HW HS HT hD hlen
            go_wp2_with (first | (go_at_call 61; (with_reducible refine HS2.out.mono ?_); rintro e w9 ⟨rfl, C, hC, hw⟩; replace hC := Aside0.mk hC))
            go_roundw
            case rel => exact ⟨n + 1, P ++ (C ++ []), P, A, by go_num, by omega, ⟨.inr ⟨rfl, by rw [List.append_nil]; exact HTA.out.last hC.out⟩⟩, ⟨by have h1 := congrArg List.length HTA.out.eq; rw [HL.out] at h1; simp only [List.length_append, List.length_nil, hC.out.len] at h1 ⊢; omega⟩, hw⟩
            case measure => simp [intOf]; omega
          | cons z T2 =>
            have hlen2 : i + A.length < n := by simp only [List.length_cons] at hlen; omega
            have c1 : wr.cell? ⟨g, i + A.length, none⟩ = some (.int .i32 z) := by
              have := HW.out.cell (i := i + A.length) (x := z) (by rw [hD, HP.out, List.getElem?_append_right (by omega), show P.length + A.length - P.length = A.length by omega, get_at])
              simpa using this
            have e1 : ((i : Int) + (A.length : Int)).toNat = i + A.length := by omega
            have e2 : (i : Int) + (A.length : Int) < (n : Int) := by omega
            have hd : decide ((i : Int) + (A.length : Int) < (n : Int)) = true := decide_eq_true e2
            have r1 : IntKind.i64.wrap ((i : Int) + (A.length : Int)) = (i : Int) + (A.length : Int) := by rw [IntKind.wrap_i64]; omega
            replace hlen := Aside0.mk hlen
            replace hD := Aside0.mk hD
            have HCz := class_any z
            by_cases hz : clsU z = 0
            · rw [hz] at HCz
              have HTA : Aside0 (Ordg l0 D P (A ++ z :: T2)) := ⟨by have := HT.out; rw [HA.out.1] at this; exact this⟩
              have HZ := Aside0.mk hz
              have hiw : IntKind.i64.wrap ((i : Int) + (A.length : Int) + 1) = (i : Int) + (A.length : Int) + 1 := by rw [IntKind.wrap_i64]; omega
              have hi0 : (i : Int) ≤ (i : Int) + (A.length : Int) := by omega
              have hi1 : (i : Int) + (A.length : Int) ≤ (cap : Int) := by omega
              clear hz HT
              go_wp2_with (first | (go_at_call 60; (with_reducible refine (HCz _).mono ?_); rintro e w9 ⟨rfl, hb⟩; replace HW := Aside0.mk (HW.out.below hb); clear hb) | (go_at_call 61; (with_reducible refine (HS.out _ _ HW.out).mono ?_); rintro e w9 ⟨rfl, C, hC, hw⟩; replace hC := Aside0.mk hC))
              go_roundw
              case rel => exact ⟨i + A.length + 1, P ++ (C ++ z :: T2), P ++ (C ++ [z]), T2, by go_num, by omega, ⟨.inl ⟨HTA.out.step hC.out HZ.out, by simp only [List.length_append, List.length_cons, List.length_nil, hC.out.len]; have := HP.out; omega⟩⟩, ⟨by have h1 := congrArg List.length hD.out; rw [HL.out] at h1; simp only [List.length_append, List.length_cons, hC.out.len] at h1 ⊢; omega⟩, hw⟩
              case measure => simp [intOf]; omega
            · have hzb : (clsU z == 0) = false := beq_eq_false_iff_ne.2 hz
              replace HA : Aside0 (T = (A ++ [z]) ++ T2 ∧ Nz (A ++ [z])) := ⟨by rw [HA.out.1]; simp, fun x hx => by
                rcases List.mem_append.1 hx with hx | hx
                · exact HA.out.2 x hx
                · rw [List.mem_singleton.1 hx]; exact hz⟩
              generalize clsU z = cz at HCz hz hzb
              go_wp2_with (first | (go_at_call 60; (with_reducible refine (HCz _).mono ?_); rintro e w9 ⟨rfl, hb⟩; replace HW := Aside0.mk (HW.out.below hb); clear hb))
              go_roundw
              case rel => exact ⟨A ++ [z], T2, by simp; omega, HA, HW⟩
              case measure => simp [intOf]; omega
      · have hD : D = ordM clsU l0 := by
          rcases HO.out with ⟨hO, hi⟩ | ⟨_, h⟩
          · have hPT : P.length + T.length = n := by rw [← HL.out, hO.eq, List.length_append]
            obtain rfl : T = [] := List.length_eq_zero_iff.1 (by omega)
            have := hO.last (C := []) ⟨So.refl _, .refl _, List.Pairwise.nil⟩
            rw [hO.eq]; exact this
          · exact h
        have hd : decide ((i : Int) < (n : Int)) = false := decide_eq_false (by omega)
        have hR : Kd.R (Kd.int .i32) 21 wr w.heap.size (fun _ => True) (.slice (some ⟨g, 0, none⟩) n cap) D := by
          have := of_win (base := w.heap.size) (cap := cap) HW.out.row hcap.out.1 (by rw [HL.out]; exact hcap.out.2.1) hcap.out.2.2
          rw [HL.out] at this
          exact this
        have hbb : Below w.heap.size w wr := HW.out.turned.below hB.out hB.out.size (fun k hk e => by have := hcap.out.1; omega)
        rw [hD] at hR
        clear HO HW HL hD hB
        go_wp2_with fail
        go_ret
        exact ⟨_, rfl, hR, hbb⟩
end Go.Proofs.YtncbbgmhmofhnaaDoor.Pr
end
