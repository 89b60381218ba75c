-- printed by this session's own driver (wip/pr.py) over the kit's printer. Not trusted: Lean checks it.
import Derived.Test.YtkdhmdmmdbmeaaaPr0
import Derived.Test.YtkdhmdmmdbmeaaaPrB1
namespace Go.Proofs.Ytkdhmdmmdbmeaaa.Pr
open Go.RowKit Go.Proofs.YtkdhmdmmdbmeaaaW.PrintWords Go.Proofs.YtkdhmdmmdbmeaaaW.PrintLast Go.Proofs.YtkdhmdmmdbmeaaaW.PrintMore
attribute [local go_sem] max2_int min2_int max_two min_two max_three min_three max_four min_four Instr.field asAgg   -- for this text's walks alone
set_option linter.unusedVariables false
set_option linter.unusedSimpArgs false

/-! ### portcullisref03_Map: function 22 -/
def portcullisref03_Map.j0 : Nat → Int → Int → Bool → Int → Int → Int → Int → Int → Int → Int → Int → Int → Bool → Int → Option (List Int)
  | 0, _, _, _, _, _, _, _, _, _, _, _, _, _, _ => none
  | k + 1, x0, x7, x8, x322000, x322001, x322002, x322003, x322004, x322005, x322006, x322007, x322008, x322009, x322010 => if x8 = true then (some (([x0] : List Int))) else (if x7 = 3 then (if x322003 = 0 then (if x322005 = 0 then (some (([x322004] : List Int))) else (some (([x322004, x322005] : List Int)))) else (some (([wrap32 (x0 + x322003)] : List Int)))) else (some ([] : List Int)))
def portcullisref03_Map.f (k : Nat) (a0 : Int) : Option (List Int) := (portcullisref03_Find.f k a0).bind fun bt310 => (if bt310.2.2.1 = 1 then (portcullisref03_Map.j0 k a0 bt310.2.2.1 (bt310.2.2.1 == 1) bt310.1 bt310.2.1 bt310.2.2.1 bt310.2.2.2.1 bt310.2.2.2.2.1 bt310.2.2.2.2.2.1 bt310.2.2.2.2.2.2.1 bt310.2.2.2.2.2.2.2.1 bt310.2.2.2.2.2.2.2.2.1 bt310.2.2.2.2.2.2.2.2.2.1 bt310.2.2.2.2.2.2.2.2.2.2) else (portcullisref03_Map.j0 k a0 bt310.2.2.1 (bt310.2.2.1 == 4) bt310.1 bt310.2.1 bt310.2.2.1 bt310.2.2.2.1 bt310.2.2.2.2.1 bt310.2.2.2.2.2.1 bt310.2.2.2.2.2.2.1 bt310.2.2.2.2.2.2.2.1 bt310.2.2.2.2.2.2.2.2.1 bt310.2.2.2.2.2.2.2.2.2.1 bt310.2.2.2.2.2.2.2.2.2.2))
theorem portcullisref03_Map.mono_l : ∀ k, (∀ y0 y1 y2 y3 y4 y5 y6 y7 y8 y9 y10 y11 y12 y13, LeO (portcullisref03_Map.j0 k y0 y1 y2 y3 y4 y5 y6 y7 y8 y9 y10 y11 y12 y13) (portcullisref03_Map.j0 (k + 1) y0 y1 y2 y3 y4 y5 y6 y7 y8 y9 y10 y11 y12 y13))
  | 0 => fun _ _ _ _ _ _ _ _ _ _ _ _ _ _ r h => by simp [portcullisref03_Map.j0] at h
  | k + 1 => by
    have ih0 := portcullisref03_Map.mono_l k
    · intro y0 y1 y2 y3 y4 y5 y6 y7 y8 y9 y10 y11 y12 y13
      unfold portcullisref03_Map.j0
      repeat' first
      | (with_reducible exact ih0 _ _ _ _ _ _ _ _ _ _ _ _ _ _)
      | (with_reducible exact portcullisref03_Find.mono _ _)
      | (with_reducible exact LeO.refl _)
      | (with_reducible exact LeO.none _)
      | (with_reducible refine LeO.ite ?_ ?_)
      | (with_reducible refine LeO.bind ?_ (fun _ => ?_))
      | exact ih0 _ _ _ _ _ _ _ _ _ _ _ _ _ _
      | exact portcullisref03_Find.mono _ _
      | exact LeO.none _
      | refine LeO.ite ?_ ?_
      | refine LeO.bind ?_ (fun _ => ?_)
theorem portcullisref03_Map.mono : ∀ a0 k, LeO (portcullisref03_Map.f k a0) (portcullisref03_Map.f (k + 1) a0) := by
  intro a0 k
  have ih0 := portcullisref03_Map.mono_l k
  unfold portcullisref03_Map.f
  repeat' first
      | (with_reducible exact ih0 _ _ _ _ _ _ _ _ _ _ _ _ _ _)
      | (with_reducible exact portcullisref03_Find.mono _ _)
      | (with_reducible exact LeO.refl _)
      | (with_reducible exact LeO.none _)
      | (with_reducible refine LeO.ite ?_ ?_)
      | (with_reducible refine LeO.bind ?_ (fun _ => ?_))
      | exact ih0 _ _ _ _ _ _ _ _ _ _ _ _ _ _
      | exact portcullisref03_Find.mono _ _
      | exact LeO.none _
      | refine LeO.ite ?_ ?_
      | refine LeO.bind ?_ (fun _ => ?_)
set_option maxHeartbeats 8000000 in
set_option maxRecDepth 100000 in
theorem portcullisref03_Map.calls (k : Nat) (a0 : Int) (r : List Int) (w : World) (h : portcullisref03_Map.f k a0 = some r) :
    Calls Try.prog 22 #[.int .i32 a0] w fun e w' => ∃ v0_ : Value, e = .returned (v0_) ∧ Kd.R (Kd.int .i32) 21 w' w.heap.size (fun _ => True) v0_ r ∧ Below w.heap.size w w' := by
  have hu32 := Try.underlying32
  have HB := Aside0.mk (Below.refl w.heap.size w)
  have H : ((portcullisref03_Find.f k a0).bind fun bt310 => (if bt310.2.2.1 = 1 then (portcullisref03_Map.j0 k a0 bt310.2.2.1 (bt310.2.2.1 == 1) bt310.1 bt310.2.1 bt310.2.2.1 bt310.2.2.2.1 bt310.2.2.2.2.1 bt310.2.2.2.2.2.1 bt310.2.2.2.2.2.2.1 bt310.2.2.2.2.2.2.2.1 bt310.2.2.2.2.2.2.2.2.1 bt310.2.2.2.2.2.2.2.2.2.1 bt310.2.2.2.2.2.2.2.2.2.2) else (portcullisref03_Map.j0 k a0 bt310.2.2.1 (bt310.2.2.1 == 4) bt310.1 bt310.2.1 bt310.2.2.1 bt310.2.2.2.1 bt310.2.2.2.2.1 bt310.2.2.2.2.2.1 bt310.2.2.2.2.2.2.1 bt310.2.2.2.2.2.2.2.1 bt310.2.2.2.2.2.2.2.2.1 bt310.2.2.2.2.2.2.2.2.2.1 bt310.2.2.2.2.2.2.2.2.2.2))) = some r := h
  clear h
  replace H := Option.bind_eq_some_iff.mp H
  obtain ⟨⟨t310, t311, t312, t313, t314, t315, t316, t317, t318, t319, t320⟩, A20, H⟩ := H
  replace H : (if t312 = 1 then (portcullisref03_Map.j0 k a0 t312 (t312 == 1) t310 t311 t312 t313 t314 t315 t316 t317 t318 t319 t320) else (portcullisref03_Map.j0 k a0 t312 (t312 == 4) t310 t311 t312 t313 t314 t315 t316 t317 t318 t319 t320)) = some r := H
  have A2 := Aside0.mk A20
  clear A20
  have HC3 := Aside0.mk H
  clear H
  go_enter Try.func22, Try.ntmps22
  go_upto_if 8 with (first | ((with_reducible refine gate_callee (f := 20) rfl ?_); refine goesL_ (some 5) rfl rfl Try.func20 (by kernel_rfl) rfl #[.int .i32 a0] rfl (by (try simp only [List.map_toArray, List.map_cons, List.map_nil]); first | done | rfl | (simp only [List.length_drop, List.length_take]; rfl)) ?_; (with_reducible refine (portcullisref03_Find.calls k a0 t310 t311 t312 t313 t314 t315 t316 t317 t318 t319 t320 _ A2.out).mono ?_); rintro e w4 ⟨rfl, hb⟩; refine ⟨_, rfl, ?_⟩; have n0_ := Aside0.mk (below_step (by repeat (first | (with_reducible first | exact HB.out | apply below_alloc | apply pw_below_drewN | apply below_drew1) | exact HB.out)) hb); clear HB; have HB := n0_; clear n0_; (try clear hb); (try clear hb2); (try clear hk); (try clear hi)) | ((with_reducible refine gate_dst (N := 3) rfl ?_); refine box_event ?hg (N := 3) ?hd (cs := #[.int .i32 0, .int .i32 0, .int .u8 0, .int .i32 0, .int .i32 0, .int .i32 0, .int .u8 0, .int .u8 0, .int .u8 0, .bool false, .int .u8 0]) (t := 32) ?hr ?_; (case hd => rfl); (case hg => rfl); (case hr => first | (go_simp; done) | (go_simp; rfl)); intro gb321 hg w5 hbox hb; have n0_ := Aside0.mk (below_step (by repeat (first | (with_reducible first | exact HB.out | apply below_alloc | apply pw_below_drewN | apply below_drew1) | exact HB.out)) hb); have n1_ := Aside0.mk (hbox); have n2_ := Aside0.mk ((by rw [hg]; exact (below_size (by repeat (first | (with_reducible first | exact HB.out | apply below_alloc | apply pw_below_drewN | apply below_drew1) | exact HB.out))) : w.heap.size ≤ gb321)); have n3_ := Aside0.mk ((by rw [hg]; exact (below_size (by repeat (first | (with_reducible first | exact HB.out | apply below_alloc | apply pw_below_drewN | apply below_drew1) | exact HB.out))) : w.heap.size ≤ gb321)); clear HB; have HB := n0_; have BK321 := n1_; have GW321 := n2_; have GE321 := n3_; clear n0_ n1_ n2_ n3_; clear hb hbox hg; have hcz6_0 : w5.cell? ⟨gb321, 0, none⟩ = some (.int .i32 0) := (blk_cell BK321.out 0).trans rfl; have hcz6_1 : w5.cell? ⟨gb321, 1, none⟩ = some (.int .i32 0) := (blk_cell BK321.out 1).trans rfl; have hcz6_2 : w5.cell? ⟨gb321, 2, none⟩ = some (.int .u8 0) := (blk_cell BK321.out 2).trans rfl; have hcz6_3 : w5.cell? ⟨gb321, 3, none⟩ = some (.int .i32 0) := (blk_cell BK321.out 3).trans rfl; have hcz6_4 : w5.cell? ⟨gb321, 4, none⟩ = some (.int .i32 0) := (blk_cell BK321.out 4).trans rfl; have hcz6_5 : w5.cell? ⟨gb321, 5, none⟩ = some (.int .i32 0) := (blk_cell BK321.out 5).trans rfl; have hcz6_6 : w5.cell? ⟨gb321, 6, none⟩ = some (.int .u8 0) := (blk_cell BK321.out 6).trans rfl; have hcz6_7 : w5.cell? ⟨gb321, 7, none⟩ = some (.int .u8 0) := (blk_cell BK321.out 7).trans rfl; have hcz6_8 : w5.cell? ⟨gb321, 8, none⟩ = some (.int .u8 0) := (blk_cell BK321.out 8).trans rfl; have hcz6_9 : w5.cell? ⟨gb321, 9, none⟩ = some (.bool false) := (blk_cell BK321.out 9).trans rfl; have hcz6_10 : w5.cell? ⟨gb321, 10, none⟩ = some (.int .u8 0) := (blk_cell BK321.out 10).trans rfl; have hfz6_0 := blk_frozen BK321.out 0; have hfz6_1 := blk_frozen BK321.out 1; have hfz6_2 := blk_frozen BK321.out 2; have hfz6_3 := blk_frozen BK321.out 3; have hfz6_4 := blk_frozen BK321.out 4; have hfz6_5 := blk_frozen BK321.out 5; have hfz6_6 := blk_frozen BK321.out 6; have hfz6_7 := blk_frozen BK321.out 7; have hfz6_8 := blk_frozen BK321.out 8; have hfz6_9 := blk_frozen BK321.out 9; have hfz6_10 := blk_frozen BK321.out 10))
  (try simp only [Act.put, List.setIfInBounds_toArray, List.set_cons_zero, List.set_cons_succ])
  go_cut [8] (fun v8 wc => ∃ (kq : Nat) (x8_2 : Bool), v8 = .bool x8_2 ∧ Aside0 (portcullisref03_Map.j0 kq a0 t312 x8_2 t310 t311 t312 t313 t314 t315 t316 t317 t318 t319 t320 = some r) ∧ Aside0 (kq ≤ k) ∧ Aside0 (wc.heap[gb321]? = some (.cells #[.int .i32 t310, .int .i32 t311, .int .u8 t312, .int .i32 t313, .int .i32 t314, .int .i32 t315, .int .u8 t316, .int .u8 t317, .int .u8 t318, .bool t319, .int .u8 t320] 32 (0, 0))) ∧ Aside0 (Below w.heap.size w wc))
  case first =>
    have H := HC3.out
    clear HC3
    by_cases c7 : t312 = 1
    · rw [if_pos c7] at H
      have c7b0 : (t312 == 1) = true := beq_iff_eq.mpr c7
      have c7b1 : (t312 != 1) = false := bne_eq_false_iff_eq.mpr c7
      clear c7
      (first | rw [c7b0] | (simp only [i64_w, i32_w]; rw [c7b0]) | skip)
      have H' := Aside0.mk H
      clear H
      go_wp2
      go_meet
      case rel => exact ⟨_, ((t312 == 1)), (by first | rfl | (simp; done) | (simp [*]; done)), H', ⟨by first | omega | exact Nat.le_refl _⟩, ⟨by (with_reducible repeat (first | refine blk_drewN ?_ _ | refine blk_drew ?_ | refine blk_alloc ?_ _)); refine blk_put (cs := #[.int .i32 t310, .int .i32 t311, .int .u8 t312, .int .i32 t313, .int .i32 t314, .int .i32 t315, .int .u8 t316, .int .u8 t317, .int .u8 t318, .bool t319, .int .u8 0]) ?_ 10 _ rfl; (with_reducible repeat (first | refine blk_drewN ?_ _ | refine blk_drew ?_ | refine blk_alloc ?_ _)); refine blk_put (cs := #[.int .i32 t310, .int .i32 t311, .int .u8 t312, .int .i32 t313, .int .i32 t314, .int .i32 t315, .int .u8 t316, .int .u8 t317, .int .u8 t318, .bool false, .int .u8 0]) ?_ 9 _ rfl; (with_reducible repeat (first | refine blk_drewN ?_ _ | refine blk_drew ?_ | refine blk_alloc ?_ _)); refine blk_put (cs := #[.int .i32 t310, .int .i32 t311, .int .u8 t312, .int .i32 t313, .int .i32 t314, .int .i32 t315, .int .u8 t316, .int .u8 t317, .int .u8 0, .bool false, .int .u8 0]) ?_ 8 _ rfl; (with_reducible repeat (first | refine blk_drewN ?_ _ | refine blk_drew ?_ | refine blk_alloc ?_ _)); refine blk_put (cs := #[.int .i32 t310, .int .i32 t311, .int .u8 t312, .int .i32 t313, .int .i32 t314, .int .i32 t315, .int .u8 t316, .int .u8 0, .int .u8 0, .bool false, .int .u8 0]) ?_ 7 _ rfl; (with_reducible repeat (first | refine blk_drewN ?_ _ | refine blk_drew ?_ | refine blk_alloc ?_ _)); refine blk_put (cs := #[.int .i32 t310, .int .i32 t311, .int .u8 t312, .int .i32 t313, .int .i32 t314, .int .i32 t315, .int .u8 0, .int .u8 0, .int .u8 0, .bool false, .int .u8 0]) ?_ 6 _ rfl; (with_reducible repeat (first | refine blk_drewN ?_ _ | refine blk_drew ?_ | refine blk_alloc ?_ _)); refine blk_put (cs := #[.int .i32 t310, .int .i32 t311, .int .u8 t312, .int .i32 t313, .int .i32 t314, .int .i32 0, .int .u8 0, .int .u8 0, .int .u8 0, .bool false, .int .u8 0]) ?_ 5 _ rfl; (with_reducible repeat (first | refine blk_drewN ?_ _ | refine blk_drew ?_ | refine blk_alloc ?_ _)); refine blk_put (cs := #[.int .i32 t310, .int .i32 t311, .int .u8 t312, .int .i32 t313, .int .i32 0, .int .i32 0, .int .u8 0, .int .u8 0, .int .u8 0, .bool false, .int .u8 0]) ?_ 4 _ rfl; (with_reducible repeat (first | refine blk_drewN ?_ _ | refine blk_drew ?_ | refine blk_alloc ?_ _)); refine blk_put (cs := #[.int .i32 t310, .int .i32 t311, .int .u8 t312, .int .i32 0, .int .i32 0, .int .i32 0, .int .u8 0, .int .u8 0, .int .u8 0, .bool false, .int .u8 0]) ?_ 3 _ rfl; (with_reducible repeat (first | refine blk_drewN ?_ _ | refine blk_drew ?_ | refine blk_alloc ?_ _)); refine blk_put (cs := #[.int .i32 t310, .int .i32 t311, .int .u8 0, .int .i32 0, .int .i32 0, .int .i32 0, .int .u8 0, .int .u8 0, .int .u8 0, .bool false, .int .u8 0]) ?_ 2 _ rfl; (with_reducible repeat (first | refine blk_drewN ?_ _ | refine blk_drew ?_ | refine blk_alloc ?_ _)); refine blk_put (cs := #[.int .i32 t310, .int .i32 0, .int .u8 0, .int .i32 0, .int .i32 0, .int .i32 0, .int .u8 0, .int .u8 0, .int .u8 0, .bool false, .int .u8 0]) ?_ 1 _ rfl; (with_reducible repeat (first | refine blk_drewN ?_ _ | refine blk_drew ?_ | refine blk_alloc ?_ _)); refine blk_put (cs := #[.int .i32 0, .int .i32 0, .int .u8 0, .int .i32 0, .int .i32 0, .int .i32 0, .int .u8 0, .int .u8 0, .int .u8 0, .bool false, .int .u8 0]) ?_ 0 _ rfl; (with_reducible repeat (first | refine blk_drewN ?_ _ | refine blk_drew ?_ | refine blk_alloc ?_ _)); exact BK321.out⟩, ⟨by repeat (first | (with_reducible first | exact HB.out | apply below_alloc | apply pw_below_drewN | apply below_drew1 | refine below_set ?_ GE321.out) | exact HB.out)⟩⟩
    · rw [if_neg c7] at H
      have c7b0 : (t312 == 1) = false := beq_eq_false_iff_ne.mpr c7
      have c7b1 : (t312 != 1) = true := bne_iff_ne.mpr c7
      (first | rw [c7b0] | (simp only [i64_w, i32_w]; rw [c7b0]) | skip)
      have H' := Aside0.mk H
      clear H
      go_wp2
      go_meet
      case rel => exact ⟨_, ((t312 == 4)), (by first | rfl | (simp; done) | (simp [*]; done)), H', ⟨by first | omega | exact Nat.le_refl _⟩, ⟨by (with_reducible repeat (first | refine blk_drewN ?_ _ | refine blk_drew ?_ | refine blk_alloc ?_ _)); refine blk_put (cs := #[.int .i32 t310, .int .i32 t311, .int .u8 t312, .int .i32 t313, .int .i32 t314, .int .i32 t315, .int .u8 t316, .int .u8 t317, .int .u8 t318, .bool t319, .int .u8 0]) ?_ 10 _ rfl; (with_reducible repeat (first | refine blk_drewN ?_ _ | refine blk_drew ?_ | refine blk_alloc ?_ _)); refine blk_put (cs := #[.int .i32 t310, .int .i32 t311, .int .u8 t312, .int .i32 t313, .int .i32 t314, .int .i32 t315, .int .u8 t316, .int .u8 t317, .int .u8 t318, .bool false, .int .u8 0]) ?_ 9 _ rfl; (with_reducible repeat (first | refine blk_drewN ?_ _ | refine blk_drew ?_ | refine blk_alloc ?_ _)); refine blk_put (cs := #[.int .i32 t310, .int .i32 t311, .int .u8 t312, .int .i32 t313, .int .i32 t314, .int .i32 t315, .int .u8 t316, .int .u8 t317, .int .u8 0, .bool false, .int .u8 0]) ?_ 8 _ rfl; (with_reducible repeat (first | refine blk_drewN ?_ _ | refine blk_drew ?_ | refine blk_alloc ?_ _)); refine blk_put (cs := #[.int .i32 t310, .int .i32 t311, .int .u8 t312, .int .i32 t313, .int .i32 t314, .int .i32 t315, .int .u8 t316, .int .u8 0, .int .u8 0, .bool false, .int .u8 0]) ?_ 7 _ rfl; (with_reducible repeat (first | refine blk_drewN ?_ _ | refine blk_drew ?_ | refine blk_alloc ?_ _)); refine blk_put (cs := #[.int .i32 t310, .int .i32 t311, .int .u8 t312, .int .i32 t313, .int .i32 t314, .int .i32 t315, .int .u8 0, .int .u8 0, .int .u8 0, .bool false, .int .u8 0]) ?_ 6 _ rfl; (with_reducible repeat (first | refine blk_drewN ?_ _ | refine blk_drew ?_ | refine blk_alloc ?_ _)); refine blk_put (cs := #[.int .i32 t310, .int .i32 t311, .int .u8 t312, .int .i32 t313, .int .i32 t314, .int .i32 0, .int .u8 0, .int .u8 0, .int .u8 0, .bool false, .int .u8 0]) ?_ 5 _ rfl; (with_reducible repeat (first | refine blk_drewN ?_ _ | refine blk_drew ?_ | refine blk_alloc ?_ _)); refine blk_put (cs := #[.int .i32 t310, .int .i32 t311, .int .u8 t312, .int .i32 t313, .int .i32 0, .int .i32 0, .int .u8 0, .int .u8 0, .int .u8 0, .bool false, .int .u8 0]) ?_ 4 _ rfl; (with_reducible repeat (first | refine blk_drewN ?_ _ | refine blk_drew ?_ | refine blk_alloc ?_ _)); refine blk_put (cs := #[.int .i32 t310, .int .i32 t311, .int .u8 t312, .int .i32 0, .int .i32 0, .int .i32 0, .int .u8 0, .int .u8 0, .int .u8 0, .bool false, .int .u8 0]) ?_ 3 _ rfl; (with_reducible repeat (first | refine blk_drewN ?_ _ | refine blk_drew ?_ | refine blk_alloc ?_ _)); refine blk_put (cs := #[.int .i32 t310, .int .i32 t311, .int .u8 0, .int .i32 0, .int .i32 0, .int .i32 0, .int .u8 0, .int .u8 0, .int .u8 0, .bool false, .int .u8 0]) ?_ 2 _ rfl; (with_reducible repeat (first | refine blk_drewN ?_ _ | refine blk_drew ?_ | refine blk_alloc ?_ _)); refine blk_put (cs := #[.int .i32 t310, .int .i32 0, .int .u8 0, .int .i32 0, .int .i32 0, .int .i32 0, .int .u8 0, .int .u8 0, .int .u8 0, .bool false, .int .u8 0]) ?_ 1 _ rfl; (with_reducible repeat (first | refine blk_drewN ?_ _ | refine blk_drew ?_ | refine blk_alloc ?_ _)); refine blk_put (cs := #[.int .i32 0, .int .i32 0, .int .u8 0, .int .i32 0, .int .i32 0, .int .i32 0, .int .u8 0, .int .u8 0, .int .u8 0, .bool false, .int .u8 0]) ?_ 0 _ rfl; (with_reducible repeat (first | refine blk_drewN ?_ _ | refine blk_drew ?_ | refine blk_alloc ?_ _)); exact BK321.out⟩, ⟨by repeat (first | (with_reducible first | exact HB.out | apply below_alloc | apply pw_below_drewN | apply below_drew1 | refine below_set ?_ GE321.out) | exact HB.out)⟩⟩
  case rest =>
    clear HC3
    try clear c2
    try clear p2
    try clear c7
    try clear c7b0
    try clear c7b1
    try clear hcz6_0
    try clear hcz6_1
    try clear hcz6_10
    try clear hcz6_2
    try clear hcz6_3
    try clear hcz6_4
    try clear hcz6_5
    try clear hcz6_6
    try clear hcz6_7
    try clear hcz6_8
    try clear hcz6_9
    try clear hfz6_0
    try clear hfz6_1
    try clear hfz6_10
    try clear hfz6_2
    try clear hfz6_3
    try clear hfz6_4
    try clear hfz6_5
    try clear hfz6_6
    try clear hfz6_7
    try clear hfz6_8
    try clear hfz6_9
    obtain ⟨kq, x8_2, rfl, HA, HJ2, BK321, HB⟩ := hcut
    cases kq with
    | zero => exact absurd HA.out (by simp [portcullisref03_Map.j0])
    | succ kj2 =>
      have H := HA.out
      clear HA
      simp only [portcullisref03_Map.j0] at H
      by_cases c8 : x8_2 = true
      · subst c8
        have H1 : (some (([a0] : List Int))) = some r := by rw [if_pos rfl] at H; exact H
        clear H
        have H := H1
        clear H1
        obtain ⟨y322, hy322⟩ : ∃ y_ : List Int, y_ = (([a0] : List Int)) := ⟨_, rfl⟩
        replace H : (some y322) = some r := by first | (rw [hy322]; with_reducible exact H) | (have H2_ := (Option.bind_some _ _).symm.trans H; rw [hy322]; with_reducible exact H2_) | (have H2_ := (Option.bind_some _ _).symm.trans H; with_reducible exact H2_) | with_reducible exact H | (rw [hy322]; exact H) | exact H
        have Ny322 := Aside0.mk hy322
        clear hy322
        obtain rfl := Option.some.inj H
        go_wp2_with (first | ((with_reducible refine gate_dst (N := 12) rfl ?_); refine Kd.R_lit (Kd.int .i32) _ 21 ?hg (N := 12) ?hd (xs := ([a0] : List Int)) (inner := [.int .i32 a0]) (ok := fun _ => True) (okp := fun _ => True) ?hr ?hp (fun _ hk => hk) trivial (Below.refl _ _) (Nat.le_refl _) (by simp) ?_; (case hd => rfl); (case hg => rfl); (case hr => first | (go_simp; done) | (go_simp; rfl)); (case hp => exact (Reps.one (show Kd.M (Kd.int .i32) _ _ _ a0 [.int .i32 a0] from rfl) (Reps.none _ _))); intro v323 w9 ho10 hb hg_ hnew_; clear hg_ hnew_; (first | rw [← Ny322.out] at ho10 | (simp only [Int.reduceToNat] at ho10; rw [← Ny322.out] at ho10)); have n0_ := Aside0.mk (Kd.R_lower ho10 (below_size (by repeat (first | (with_reducible first | exact HB.out | apply below_alloc | apply pw_below_drewN | apply below_drew1 | refine below_set ?_ GE321.out) | exact HB.out)))); have n1_ := Aside0.mk (blk_below (g := gb321) (o := .cells #[.int .i32 t310, .int .i32 t311, .int .u8 t312, .int .i32 t313, .int .i32 t314, .int .i32 t315, .int .u8 t316, .int .u8 t317, .int .u8 t318, .bool t319, .int .u8 t320] 32 (0, 0)) (by (with_reducible repeat (first | refine blk_drewN ?_ _ | refine blk_drew ?_ | refine blk_alloc ?_ _)); exact BK321.out) hb); have n2_ := Aside0.mk (below_step (by repeat (first | (with_reducible first | exact HB.out | apply below_alloc | apply pw_below_drewN | apply below_drew1 | refine below_set ?_ GE321.out) | exact HB.out)) hb); clear BK321; clear HB; have HO324 := n0_; have BK321 := n1_; have HB := n2_; clear n0_ n1_ n2_; clear hb ho10))
        go_ret
        exact ⟨_, by first | rfl | (simp [errW_none, errW_some] <;> rfl) | (simp [*, errW_none, errW_some] <;> rfl), by (with_reducible repeat (first | apply Kd.R_alloc | apply Kd.R_drewN | apply Kd.R_drew)); exact HO324.out, by repeat (first | (with_reducible first | exact HB.out | apply below_alloc | apply pw_below_drewN | apply below_drew1 | refine below_set ?_ GE321.out) | exact HB.out)⟩
      · replace c8 := Bool.eq_false_iff.mpr c8
        subst c8
        have H1 : (if t312 = 3 then (if t313 = 0 then (if t315 = 0 then (some (([t314] : List Int))) else (some (([t314, t315] : List Int)))) else (some (([wrap32 (a0 + t313)] : List Int)))) else (some ([] : List Int))) = some r := by rw [if_neg (show ¬ (false = true) by decide)] at H; exact H
        clear H
        have H := H1
        clear H1
        by_cases c11 : t312 = 3
        · rw [if_pos c11] at H
          have c11b0 : (t312 == 3) = true := beq_iff_eq.mpr c11
          have c11b1 : (t312 != 3) = false := bne_eq_false_iff_eq.mpr c11
          clear c11
          by_cases c12 : t313 = 0
          · rw [if_pos c12] at H
            have c12b0 : (t313 == 0) = true := beq_iff_eq.mpr c12
            have c12b1 : (t313 != 0) = false := bne_eq_false_iff_eq.mpr c12
            clear c12
            by_cases c13 : t315 = 0
            · rw [if_pos c13] at H
              have c13b0 : (t315 == 0) = true := beq_iff_eq.mpr c13
              have c13b1 : (t315 != 0) = false := bne_eq_false_iff_eq.mpr c13
              clear c13
              obtain ⟨y325, hy325⟩ : ∃ y_ : List Int, y_ = (([t314] : List Int)) := ⟨_, rfl⟩
              replace H : (some y325) = some r := by first | (rw [hy325]; with_reducible exact H) | (have H2_ := (Option.bind_some _ _).symm.trans H; rw [hy325]; with_reducible exact H2_) | (have H2_ := (Option.bind_some _ _).symm.trans H; with_reducible exact H2_) | with_reducible exact H | (rw [hy325]; exact H) | exact H
              have Ny325 := Aside0.mk hy325
              clear hy325
              obtain rfl := Option.some.inj H
              have hcz14_0 : wc.cell? ⟨gb321, 0, none⟩ = some (.int .i32 t310) := (blk_cell BK321.out 0).trans rfl
              have hcz14_1 : wc.cell? ⟨gb321, 1, none⟩ = some (.int .i32 t311) := (blk_cell BK321.out 1).trans rfl
              have hcz14_2 : wc.cell? ⟨gb321, 2, none⟩ = some (.int .u8 t312) := (blk_cell BK321.out 2).trans rfl
              have hcz14_3 : wc.cell? ⟨gb321, 3, none⟩ = some (.int .i32 t313) := (blk_cell BK321.out 3).trans rfl
              have hcz14_4 : wc.cell? ⟨gb321, 4, none⟩ = some (.int .i32 t314) := (blk_cell BK321.out 4).trans rfl
              have hcz14_5 : wc.cell? ⟨gb321, 5, none⟩ = some (.int .i32 t315) := (blk_cell BK321.out 5).trans rfl
              have hcz14_6 : wc.cell? ⟨gb321, 6, none⟩ = some (.int .u8 t316) := (blk_cell BK321.out 6).trans rfl
              have hcz14_7 : wc.cell? ⟨gb321, 7, none⟩ = some (.int .u8 t317) := (blk_cell BK321.out 7).trans rfl
              have hcz14_8 : wc.cell? ⟨gb321, 8, none⟩ = some (.int .u8 t318) := (blk_cell BK321.out 8).trans rfl
              have hcz14_9 : wc.cell? ⟨gb321, 9, none⟩ = some (.bool t319) := (blk_cell BK321.out 9).trans rfl
              have hcz14_10 : wc.cell? ⟨gb321, 10, none⟩ = some (.int .u8 t320) := (blk_cell BK321.out 10).trans rfl
              have hfz14_0 := blk_frozen BK321.out 0
              have hfz14_1 := blk_frozen BK321.out 1
              have hfz14_2 := blk_frozen BK321.out 2
              have hfz14_3 := blk_frozen BK321.out 3
              have hfz14_4 := blk_frozen BK321.out 4
              have hfz14_5 := blk_frozen BK321.out 5
              have hfz14_6 := blk_frozen BK321.out 6
              have hfz14_7 := blk_frozen BK321.out 7
              have hfz14_8 := blk_frozen BK321.out 8
              have hfz14_9 := blk_frozen BK321.out 9
              have hfz14_10 := blk_frozen BK321.out 10
              go_wp2_with (first | ((with_reducible refine gate_dst (N := 33) rfl ?_); refine Kd.R_lit (Kd.int .i32) _ 21 ?hg (N := 33) ?hd (xs := ([t314] : List Int)) (inner := [.int .i32 t314]) (ok := fun _ => True) (okp := fun _ => True) ?hr ?hp (fun _ hk => hk) trivial (Below.refl _ _) (Nat.le_refl _) (by simp) ?_; (case hd => rfl); (case hg => rfl); (case hr => first | (go_simp; done) | (go_simp; rfl)); (case hp => exact (Reps.one (show Kd.M (Kd.int .i32) _ _ _ t314 [.int .i32 t314] from rfl) (Reps.none _ _))); intro v326 w15 ho16 hb hg_ hnew_; clear hg_ hnew_; (first | rw [← Ny325.out] at ho16 | (simp only [Int.reduceToNat] at ho16; rw [← Ny325.out] at ho16)); have n0_ := Aside0.mk (Kd.R_lower ho16 (below_size (by repeat (first | (with_reducible first | exact HB.out | apply below_alloc | apply pw_below_drewN | apply below_drew1 | refine below_set ?_ GE321.out) | exact HB.out)))); have n1_ := Aside0.mk (blk_below (g := gb321) (o := .cells #[.int .i32 t310, .int .i32 t311, .int .u8 t312, .int .i32 t313, .int .i32 t314, .int .i32 t315, .int .u8 t316, .int .u8 t317, .int .u8 t318, .bool t319, .int .u8 t320] 32 (0, 0)) (by (with_reducible repeat (first | refine blk_drewN ?_ _ | refine blk_drew ?_ | refine blk_alloc ?_ _)); exact BK321.out) hb); have n2_ := Aside0.mk (below_step (by repeat (first | (with_reducible first | exact HB.out | apply below_alloc | apply pw_below_drewN | apply below_drew1 | refine below_set ?_ GE321.out) | exact HB.out)) hb); clear BK321; clear HB; have HO327 := n0_; have BK321 := n1_; have HB := n2_; clear n0_ n1_ n2_; clear hb ho16))
              go_ret
              exact ⟨_, by first | rfl | (simp [errW_none, errW_some] <;> rfl) | (simp [*, errW_none, errW_some] <;> rfl), by (with_reducible repeat (first | apply Kd.R_alloc | apply Kd.R_drewN | apply Kd.R_drew)); exact HO327.out, by repeat (first | (with_reducible first | exact HB.out | apply below_alloc | apply pw_below_drewN | apply below_drew1 | refine below_set ?_ GE321.out) | exact HB.out)⟩
            · rw [if_neg c13] at H
              have c13b0 : (t315 == 0) = false := beq_eq_false_iff_ne.mpr c13
              have c13b1 : (t315 != 0) = true := bne_iff_ne.mpr c13
              obtain ⟨y328, hy328⟩ : ∃ y_ : List Int, y_ = (([t314, t315] : List Int)) := ⟨_, rfl⟩
              replace H : (some y328) = some r := by first | (rw [hy328]; with_reducible exact H) | (have H2_ := (Option.bind_some _ _).symm.trans H; rw [hy328]; with_reducible exact H2_) | (have H2_ := (Option.bind_some _ _).symm.trans H; with_reducible exact H2_) | with_reducible exact H | (rw [hy328]; exact H) | exact H
              have Ny328 := Aside0.mk hy328
              clear hy328
              obtain rfl := Option.some.inj H
              have hcz17_0 : wc.cell? ⟨gb321, 0, none⟩ = some (.int .i32 t310) := (blk_cell BK321.out 0).trans rfl
              have hcz17_1 : wc.cell? ⟨gb321, 1, none⟩ = some (.int .i32 t311) := (blk_cell BK321.out 1).trans rfl
              have hcz17_2 : wc.cell? ⟨gb321, 2, none⟩ = some (.int .u8 t312) := (blk_cell BK321.out 2).trans rfl
              have hcz17_3 : wc.cell? ⟨gb321, 3, none⟩ = some (.int .i32 t313) := (blk_cell BK321.out 3).trans rfl
              have hcz17_4 : wc.cell? ⟨gb321, 4, none⟩ = some (.int .i32 t314) := (blk_cell BK321.out 4).trans rfl
              have hcz17_5 : wc.cell? ⟨gb321, 5, none⟩ = some (.int .i32 t315) := (blk_cell BK321.out 5).trans rfl
              have hcz17_6 : wc.cell? ⟨gb321, 6, none⟩ = some (.int .u8 t316) := (blk_cell BK321.out 6).trans rfl
              have hcz17_7 : wc.cell? ⟨gb321, 7, none⟩ = some (.int .u8 t317) := (blk_cell BK321.out 7).trans rfl
              have hcz17_8 : wc.cell? ⟨gb321, 8, none⟩ = some (.int .u8 t318) := (blk_cell BK321.out 8).trans rfl
              have hcz17_9 : wc.cell? ⟨gb321, 9, none⟩ = some (.bool t319) := (blk_cell BK321.out 9).trans rfl
              have hcz17_10 : wc.cell? ⟨gb321, 10, none⟩ = some (.int .u8 t320) := (blk_cell BK321.out 10).trans rfl
              have hfz17_0 := blk_frozen BK321.out 0
              have hfz17_1 := blk_frozen BK321.out 1
              have hfz17_2 := blk_frozen BK321.out 2
              have hfz17_3 := blk_frozen BK321.out 3
              have hfz17_4 := blk_frozen BK321.out 4
              have hfz17_5 := blk_frozen BK321.out 5
              have hfz17_6 := blk_frozen BK321.out 6
              have hfz17_7 := blk_frozen BK321.out 7
              have hfz17_8 := blk_frozen BK321.out 8
              have hfz17_9 := blk_frozen BK321.out 9
              have hfz17_10 := blk_frozen BK321.out 10
              go_wp2_with (first | ((with_reducible refine gate_dst (N := 30) rfl ?_); refine Kd.R_lit (Kd.int .i32) _ 21 ?hg (N := 30) ?hd (xs := ([t314, t315] : List Int)) (inner := [.int .i32 t314, .int .i32 t315]) (ok := fun _ => True) (okp := fun _ => True) ?hr ?hp (fun _ hk => hk) trivial (Below.refl _ _) (Nat.le_refl _) (by simp) ?_; (case hd => rfl); (case hg => rfl); (case hr => first | (go_simp; done) | (go_simp; rfl)); (case hp => exact (Reps.one (show Kd.M (Kd.int .i32) _ _ _ t314 [.int .i32 t314] from rfl) (Reps.one (show Kd.M (Kd.int .i32) _ _ _ t315 [.int .i32 t315] from rfl) (Reps.none _ _)))); intro v329 w18 ho19 hb hg_ hnew_; clear hg_ hnew_; (first | rw [← Ny328.out] at ho19 | (simp only [Int.reduceToNat] at ho19; rw [← Ny328.out] at ho19)); have n0_ := Aside0.mk (Kd.R_lower ho19 (below_size (by repeat (first | (with_reducible first | exact HB.out | apply below_alloc | apply pw_below_drewN | apply below_drew1 | refine below_set ?_ GE321.out) | exact HB.out)))); have n1_ := Aside0.mk (blk_below (g := gb321) (o := .cells #[.int .i32 t310, .int .i32 t311, .int .u8 t312, .int .i32 t313, .int .i32 t314, .int .i32 t315, .int .u8 t316, .int .u8 t317, .int .u8 t318, .bool t319, .int .u8 t320] 32 (0, 0)) (by (with_reducible repeat (first | refine blk_drewN ?_ _ | refine blk_drew ?_ | refine blk_alloc ?_ _)); exact BK321.out) hb); have n2_ := Aside0.mk (below_step (by repeat (first | (with_reducible first | exact HB.out | apply below_alloc | apply pw_below_drewN | apply below_drew1 | refine below_set ?_ GE321.out) | exact HB.out)) hb); clear BK321; clear HB; have HO330 := n0_; have BK321 := n1_; have HB := n2_; clear n0_ n1_ n2_; clear hb ho19))
              go_ret
              exact ⟨_, by first | rfl | (simp [errW_none, errW_some] <;> rfl) | (simp [*, errW_none, errW_some] <;> rfl), by (with_reducible repeat (first | apply Kd.R_alloc | apply Kd.R_drewN | apply Kd.R_drew)); exact HO330.out, by repeat (first | (with_reducible first | exact HB.out | apply below_alloc | apply pw_below_drewN | apply below_drew1 | refine below_set ?_ GE321.out) | exact HB.out)⟩
          · rw [if_neg c12] at H
            have c12b0 : (t313 == 0) = false := beq_eq_false_iff_ne.mpr c12
            have c12b1 : (t313 != 0) = true := bne_iff_ne.mpr c12
            obtain ⟨y331, hy331⟩ : ∃ y_ : List Int, y_ = (([wrap32 (a0 + t313)] : List Int)) := ⟨_, rfl⟩
            replace H : (some y331) = some r := by first | (rw [hy331]; with_reducible exact H) | (have H2_ := (Option.bind_some _ _).symm.trans H; rw [hy331]; with_reducible exact H2_) | (have H2_ := (Option.bind_some _ _).symm.trans H; with_reducible exact H2_) | with_reducible exact H | (rw [hy331]; exact H) | exact H
            have Ny331 := Aside0.mk hy331
            clear hy331
            obtain rfl := Option.some.inj H
            have hcz20_0 : wc.cell? ⟨gb321, 0, none⟩ = some (.int .i32 t310) := (blk_cell BK321.out 0).trans rfl
            have hcz20_1 : wc.cell? ⟨gb321, 1, none⟩ = some (.int .i32 t311) := (blk_cell BK321.out 1).trans rfl
            have hcz20_2 : wc.cell? ⟨gb321, 2, none⟩ = some (.int .u8 t312) := (blk_cell BK321.out 2).trans rfl
            have hcz20_3 : wc.cell? ⟨gb321, 3, none⟩ = some (.int .i32 t313) := (blk_cell BK321.out 3).trans rfl
            have hcz20_4 : wc.cell? ⟨gb321, 4, none⟩ = some (.int .i32 t314) := (blk_cell BK321.out 4).trans rfl
            have hcz20_5 : wc.cell? ⟨gb321, 5, none⟩ = some (.int .i32 t315) := (blk_cell BK321.out 5).trans rfl
            have hcz20_6 : wc.cell? ⟨gb321, 6, none⟩ = some (.int .u8 t316) := (blk_cell BK321.out 6).trans rfl
            have hcz20_7 : wc.cell? ⟨gb321, 7, none⟩ = some (.int .u8 t317) := (blk_cell BK321.out 7).trans rfl
            have hcz20_8 : wc.cell? ⟨gb321, 8, none⟩ = some (.int .u8 t318) := (blk_cell BK321.out 8).trans rfl
            have hcz20_9 : wc.cell? ⟨gb321, 9, none⟩ = some (.bool t319) := (blk_cell BK321.out 9).trans rfl
            have hcz20_10 : wc.cell? ⟨gb321, 10, none⟩ = some (.int .u8 t320) := (blk_cell BK321.out 10).trans rfl
            have hfz20_0 := blk_frozen BK321.out 0
            have hfz20_1 := blk_frozen BK321.out 1
            have hfz20_2 := blk_frozen BK321.out 2
            have hfz20_3 := blk_frozen BK321.out 3
            have hfz20_4 := blk_frozen BK321.out 4
            have hfz20_5 := blk_frozen BK321.out 5
            have hfz20_6 := blk_frozen BK321.out 6
            have hfz20_7 := blk_frozen BK321.out 7
            have hfz20_8 := blk_frozen BK321.out 8
            have hfz20_9 := blk_frozen BK321.out 9
            have hfz20_10 := blk_frozen BK321.out 10
            go_wp2_with (first | ((with_reducible refine gate_dst (N := 22) rfl ?_); refine Kd.R_lit (Kd.int .i32) _ 21 ?hg (N := 22) ?hd (xs := ([wrap32 (a0 + t313)] : List Int)) (inner := [.int .i32 (wrap32 (a0 + t313))]) (ok := fun _ => True) (okp := fun _ => True) ?hr ?hp (fun _ hk => hk) trivial (Below.refl _ _) (Nat.le_refl _) (by simp) ?_; (case hd => rfl); (case hg => rfl); (case hr => first | (go_simp; done) | (go_simp; rfl)); (case hp => exact (Reps.one (show Kd.M (Kd.int .i32) _ _ _ (wrap32 (a0 + t313)) [.int .i32 (wrap32 (a0 + t313))] from rfl) (Reps.none _ _))); intro v332 w21 ho22 hb hg_ hnew_; clear hg_ hnew_; (first | rw [← Ny331.out] at ho22 | (simp only [Int.reduceToNat] at ho22; rw [← Ny331.out] at ho22)); have n0_ := Aside0.mk (Kd.R_lower ho22 (below_size (by repeat (first | (with_reducible first | exact HB.out | apply below_alloc | apply pw_below_drewN | apply below_drew1 | refine below_set ?_ GE321.out) | exact HB.out)))); have n1_ := Aside0.mk (blk_below (g := gb321) (o := .cells #[.int .i32 t310, .int .i32 t311, .int .u8 t312, .int .i32 t313, .int .i32 t314, .int .i32 t315, .int .u8 t316, .int .u8 t317, .int .u8 t318, .bool t319, .int .u8 t320] 32 (0, 0)) (by (with_reducible repeat (first | refine blk_drewN ?_ _ | refine blk_drew ?_ | refine blk_alloc ?_ _)); exact BK321.out) hb); have n2_ := Aside0.mk (below_step (by repeat (first | (with_reducible first | exact HB.out | apply below_alloc | apply pw_below_drewN | apply below_drew1 | refine below_set ?_ GE321.out) | exact HB.out)) hb); clear BK321; clear HB; have HO333 := n0_; have BK321 := n1_; have HB := n2_; clear n0_ n1_ n2_; clear hb ho22))
            go_ret
            exact ⟨_, by first | rfl | (simp [errW_none, errW_some] <;> rfl) | (simp [*, errW_none, errW_some] <;> rfl), by (with_reducible repeat (first | apply Kd.R_alloc | apply Kd.R_drewN | apply Kd.R_drew)); exact HO333.out, by repeat (first | (with_reducible first | exact HB.out | apply below_alloc | apply pw_below_drewN | apply below_drew1 | refine below_set ?_ GE321.out) | exact HB.out)⟩
        · rw [if_neg c11] at H
          have c11b0 : (t312 == 3) = false := beq_eq_false_iff_ne.mpr c11
          have c11b1 : (t312 != 3) = true := bne_iff_ne.mpr c11
          obtain rfl := Option.some.inj H
          go_wp2
          go_ret
          exact ⟨_, by first | rfl | (simp [errW_none, errW_some] <;> rfl) | (simp [*, errW_none, errW_some] <;> rfl), by first | exact Kd.R_nil _ _ _ _ _ | exact Kd.N_nil _ _ _ _ _ | exact Kd.V_nil _ _ _ _ _ | exact Kd.Q_nil _ _ _ _ _ | exact Kd.S_nil _ _ _ _ _, by repeat (first | (with_reducible first | exact HB.out | apply below_alloc | apply pw_below_drewN | apply below_drew1 | refine below_set ?_ GE321.out) | exact HB.out)⟩

/-! ### portcullisref03_Decomp: function 23 -/
def portcullisref03_Decomp.l0 : Nat → Int → List (S48) → Int → Option (List Int)
  | 0, _, _, _ => none
  | k + 1, x0, x3, x4 => if x4 < (x3.length : Int) then (if 0 ≤ x4 then (if ((rd_T48 x3 x4).f0) = x0 then (some (([(rd_T48 x3 x4).f1, (rd_T48 x3 x4).f2] : List Int))) else (portcullisref03_Decomp.l0 k x0 x3 (wrap64 (x4 + 1)))) else (none)) else (if x0 = 8486 then (some (([937] : List Int))) else (if x0 = 8490 then (some (([75] : List Int))) else (if x0 = 8491 then (some (([197] : List Int))) else (some ([] : List Int)))))
def portcullisref03_Decomp.f (k : Nat) (a0 : Int) : Option (List Int) := (portcullisref03_Pairs.f).bind fun t334 => (portcullisref03_Decomp.l0 k a0 t334 0)
theorem portcullisref03_Decomp.mono_l : ∀ k, (∀ y0 y1 y2, LeO (portcullisref03_Decomp.l0 k y0 y1 y2) (portcullisref03_Decomp.l0 (k + 1) y0 y1 y2))
  | 0 => fun _ _ _ r h => by simp [portcullisref03_Decomp.l0] at h
  | k + 1 => by
    have ih0 := portcullisref03_Decomp.mono_l k
    · intro y0 y1 y2
      unfold portcullisref03_Decomp.l0
      repeat' first
      | (with_reducible exact ih0 _ _ _)
      | (with_reducible exact LeO.refl _)
      | (with_reducible exact LeO.none _)
      | (with_reducible refine LeO.ite ?_ ?_)
      | (with_reducible refine LeO.bind ?_ (fun _ => ?_))
      | exact ih0 _ _ _
      | exact LeO.none _
      | refine LeO.ite ?_ ?_
      | refine LeO.bind ?_ (fun _ => ?_)
theorem portcullisref03_Decomp.mono : ∀ a0 k, LeO (portcullisref03_Decomp.f k a0) (portcullisref03_Decomp.f (k + 1) a0) := by
  intro a0 k
  have ih0 := portcullisref03_Decomp.mono_l k
  unfold portcullisref03_Decomp.f
  repeat' first
      | (with_reducible exact ih0 _ _ _)
      | (with_reducible exact LeO.refl _)
      | (with_reducible exact LeO.none _)
      | (with_reducible refine LeO.ite ?_ ?_)
      | (with_reducible refine LeO.bind ?_ (fun _ => ?_))
      | exact ih0 _ _ _
      | exact LeO.none _
      | refine LeO.ite ?_ ?_
      | refine LeO.bind ?_ (fun _ => ?_)
def portcullisref03_Decomp.T6 : Bool × List (List Nat × List Nat) := (true, [([], []), ([], []), ([0, 1], [0, 1]), ([2], [2]), ([3], [3]), ([], []), ([], []), ([5, 6], [5, 6]), ([7], [7]), ([8], [8]), ([4, 9], [4, 9]), ([10, 0, 1, 2, 3, 4, 5, 6, 7, 8, 9, 10], [10])])
def portcullisref03_Decomp.B6 : List Nat := [0, 0, 3, 7, 15, 0, 0, 96, 224, 480, 1023, 2047]
theorem portcullisref03_Decomp.tab6 : rtab .any (opsOf Try.f23 6) = portcullisref03_Decomp.T6 := by kernel_rfl
theorem portcullisref03_Decomp.bits6 : waitsOk portcullisref03_Decomp.T6.2 portcullisref03_Decomp.B6 = true := by kernel_rfl
set_option maxHeartbeats 8000000 in
set_option maxRecDepth 100000 in
theorem portcullisref03_Decomp.calls (k : Nat) (a0 : Int) (r : List Int) (w : World) (h : portcullisref03_Decomp.f k a0 = some r) :
    Calls Try.prog 23 #[.int .i32 a0] w fun e w' => ∃ v0_ : Value, e = .returned (v0_) ∧ Kd.R (Kd.int .i32) 21 w' w.heap.size (fun _ => True) v0_ r ∧ Below w.heap.size w w' := by
  have HB := Aside0.mk (Below.refl w.heap.size w)
  have H : ((portcullisref03_Pairs.f).bind fun t334 => (portcullisref03_Decomp.l0 k a0 t334 0)) = some r := h
  clear h
  replace H := Option.bind_eq_some_iff.mp H
  obtain ⟨t334, A20, H⟩ := H
  replace H : (portcullisref03_Decomp.l0 k a0 t334 0) = some r := H
  have A2 := Aside0.mk A20
  clear A20
  have H' := Aside0.mk H
  clear H
  go_enter Try.func23, Try.ntmps23
  go_wp2_with (first | ((with_reducible refine gate_callee (f := 31) rfl ?_); refine goesL_ (some 5) rfl rfl Try.func31 (by kernel_rfl) rfl #[] rfl (by (try simp only [List.map_toArray, List.map_cons, List.map_nil]); first | done | rfl | (simp only [List.length_drop, List.length_take]; rfl)) ?_; (with_reducible refine (portcullisref03_Pairs.calls  t334 _ A2.out).mono ?_); rintro e w3 ⟨v335, rfl, ho0, hb⟩; refine ⟨_, rfl, ?_⟩; have n0_ := Aside0.mk (Kd.R_lower ho0 (below_size (by repeat (first | (with_reducible first | exact HB.out | apply below_alloc | apply pw_below_drewN | apply below_drew1) | exact HB.out)))); have n1_ := Aside0.mk (below_step (by repeat (first | (with_reducible first | exact HB.out | apply below_alloc | apply pw_below_drewN | apply below_drew1) | exact HB.out)) hb); clear HB; have HO336 := n0_; have HB := n1_; clear n0_ n1_; (try clear hb); (try clear hb2); (try clear hk); (try clear hi); (try clear ho0)))
  go_loopg [4] k (fun kq v4 w' => ∃ (x4_1 : Int), v4 = .int .i64 x4_1 ∧ Aside0 (portcullisref03_Decomp.l0 kq a0 t334 x4_1 = some r) ∧ Aside0 (kq ≤ k) ∧ Aside0 (Kd.R k48 48 w' w.heap.size (fun _ => True) v335 t334) ∧ Aside0 (Below w.heap.size w w'))
  case atStart => exact ⟨(0), (by first | rfl | (simp; done) | (simp [*]; done)), H', ⟨Nat.le_refl _⟩, ⟨by (with_reducible repeat (first | apply Kd.R_alloc | apply Kd.R_drewN | apply Kd.R_drew)); exact HO336.out⟩, ⟨by repeat (first | (with_reducible first | exact HB.out | apply below_alloc | apply pw_below_drewN | apply below_drew1) | exact HB.out)⟩⟩
  case round =>
    clear H'
    try clear c2
    try clear p2
    try clear c3
    obtain ⟨x4_1, rfl, HA, HK1, HO_3, HB⟩ := hrel
    cases gk with
    | zero => exact absurd HA.out (by simp [portcullisref03_Decomp.l0])
    | succ k1 =>
      have H := HA.out
      clear HA
      simp only [portcullisref03_Decomp.l0] at H
      by_cases c4 : x4_1 < (t334.length : Int)
      · rw [if_pos c4] at H
        have c4b0 : decide (x4_1 < (t334.length : Int)) = true := decide_eq_true c4
        clear c4
        by_cases c5 : 0 ≤ x4_1
        · rw [if_pos c5] at H
          have c5b0 : decide (0 ≤ x4_1) = true := decide_eq_true c5
          clear c5
          by_cases c6 : ((rd_T48 t334 x4_1).f0) = a0
          · rw [if_pos c6] at H
            have c6b0 : (((rd_T48 t334 x4_1).f0) == a0) = true := beq_iff_eq.mpr c6
            have c6b1 : (((rd_T48 t334 x4_1).f0) != a0) = false := bne_eq_false_iff_eq.mpr c6
            clear c6
            obtain ⟨y340, hy340⟩ : ∃ y_ : List Int, y_ = (([(rd_T48 t334 x4_1).f1, (rd_T48 t334 x4_1).f2] : List Int)) := ⟨_, rfl⟩
            replace H : (some y340) = some r := by first | (rw [hy340]; with_reducible exact H) | (have H2_ := (Option.bind_some _ _).symm.trans H; rw [hy340]; with_reducible exact H2_) | (have H2_ := (Option.bind_some _ _).symm.trans H; with_reducible exact H2_) | with_reducible exact H | (rw [hy340]; exact H) | exact H
            have Ny340 := Aside0.mk hy340
            clear hy340
            obtain rfl := Option.some.inj H
            obtain ⟨Ao7, co7, eo7⟩ := Kd.R_slice HO_3.out
            subst eo7
            have p337 : 0 ≤ (x4_1 : Int) := of_decide_eq_true (by first | (with_reducible assumption) | assumption)
            have q337 : x4_1 < (t334.length : Int) := of_decide_eq_true (by first | (with_reducible assumption) | assumption)
            obtain ⟨ad337, e337, hx337_0, hx337_1, hx337_2⟩ := at_T48 (Kd.R_reads' HO_3.out).2.2 x4_1 p337 q337
            cases e337
            replace p337 := eq_true p337
            replace q337 := eq_true q337
            try go_wp2
            have n0_ := Aside0.mk (Kd.R_drew HO_3.out)
            have n1_ := Aside0.mk (below_drew1 HB.out)
            clear HO_3
            clear HB
            have HO_3 := n0_
            have HB := n1_
            clear n0_ n1_
            have p338 : 0 ≤ (x4_1 : Int) := of_decide_eq_true (by first | (with_reducible assumption) | assumption)
            have q338 : x4_1 < (t334.length : Int) := of_decide_eq_true (by first | (with_reducible assumption) | assumption)
            obtain ⟨ad338, e338, hx338_0, hx338_1, hx338_2⟩ := at_T48 (Kd.R_reads' HO_3.out).2.2 x4_1 p338 q338
            obtain rfl : ad337 = ad338 := (by injection e338)
            replace p338 := eq_true p338
            replace q338 := eq_true q338
            have p339 : 0 ≤ (x4_1 : Int) := of_decide_eq_true (by first | (with_reducible assumption) | assumption)
            have q339 : x4_1 < (t334.length : Int) := of_decide_eq_true (by first | (with_reducible assumption) | assumption)
            obtain ⟨ad339, e339, hx339_0, hx339_1, hx339_2⟩ := at_T48 (Kd.R_reads' HO_3.out).2.2 x4_1 p339 q339
            obtain rfl : ad337 = ad339 := (by injection e339)
            replace p339 := eq_true p339
            replace q339 := eq_true q339
            refine start_ (n := 12) (S := fun w' => w'.cell? (ad337.add ((x4_1).toNat * 3)) = some (.int .i32 ((rd_T48 t334 x4_1).f0)) ∧ w'.cell? ⟨(ad337.add ((x4_1).toNat * 3)).block, (ad337.add ((x4_1).toNat * 3)).off + 1, none⟩ = some (.int .i32 ((rd_T48 t334 x4_1).f1)) ∧ w'.cell? ⟨(ad337.add ((x4_1).toNat * 3)).block, (ad337.add ((x4_1).toNat * 3)).off + 2, none⟩ = some (.int .i32 ((rd_T48 t334 x4_1).f2)) ∧ w'.cell? (ad337.add ((x4_1).toNat * 3)) = some (.int .i32 ((rd_T48 t334 x4_1).f0)) ∧ w'.cell? ⟨(ad337.add ((x4_1).toNat * 3)).block, (ad337.add ((x4_1).toNat * 3)).off + 1, none⟩ = some (.int .i32 ((rd_T48 t334 x4_1).f1)) ∧ w'.cell? ⟨(ad337.add ((x4_1).toNat * 3)).block, (ad337.add ((x4_1).toNat * 3)).off + 2, none⟩ = some (.int .i32 ((rd_T48 t334 x4_1).f2))) (ds := []) #[false, false, false, false, false, false, false, false, false, false, false, false] (by kernel_rfl) rfl rfl ⟨hx338_0, hx338_1, hx338_2, hx339_0, hx339_1, hx339_2⟩ (fun hHeld => ?_); refine with_tabW portcullisref03_Decomp.tab6 portcullisref03_Decomp.bits6 (fun HT_ HW_ => ?_)
            generalize wr.drew = w8 at HO_3 HB hx338_0 hx338_1 hx338_2 hx339_0 hx339_1 hx339_2 hHeld ⊢
            refine pure_ (i := 0) (N := some 19) (v := ?_) (a' := ?_) #[true, false, false, false, false, false, false, false, false, false, false, false] rfl rfl (any_of HT_.out (by kernel_rfl)) (fun _ _ _ h => h) (Or.inl ⟨by rfl, ?_⟩) ?_ ?_
            rotate_left
            · intro w'
              go_simp
              first | with_reducible rfl | (rw [if_neg (by (try simp only [ByteArray.size_extract] at *); omega)])
            rotate_left
            · simp only [Act.put, List.setIfInBounds_toArray, List.set_cons_zero, List.set_cons_succ, i64_w, i32_w]
              rfl
            refine pure_ (i := 1) (N := some 20) (v := ?_) (a' := ?_) #[true, true, false, false, false, false, false, false, false, false, false, false] rfl rfl (any_of HT_.out (by kernel_rfl)) (fun _ _ _ h => h) (Or.inl ⟨by rfl, ?_⟩) ?_ ?_
            rotate_left
            · intro w'
              go_simp
              first | with_reducible rfl | (rw [if_neg (by (try simp only [ByteArray.size_extract] at *); omega)])
            rotate_left
            · simp only [Act.put, List.setIfInBounds_toArray, List.set_cons_zero, List.set_cons_succ, i64_w, i32_w]
              rfl
            refine pure_ (i := 2) (N := some 21) (v := ?_) (a' := ?_) #[true, true, true, false, false, false, false, false, false, false, false, false] rfl rfl (any_of HT_.out (by kernel_rfl)) (fun _ _ _ h => h) (Or.inl ⟨by rfl, ?_⟩) ?_ ?_
            rotate_left
            · intro w'
              go_simp
              first | with_reducible rfl | (rw [if_neg (by (try simp only [ByteArray.size_extract] at *); omega)])
            rotate_left
            · simp only [Act.put, List.setIfInBounds_toArray, List.set_cons_zero, List.set_cons_succ, i64_w, i32_w]
              rfl
            refine pure_ (i := 3) (N := some 22) (v := ?_) (a' := ?_) #[true, true, true, true, false, false, false, false, false, false, false, false] rfl rfl (any_of HT_.out (by kernel_rfl)) (fun _ _ _ h => h) (Or.inl ⟨by rfl, ?_⟩) ?_ ?_
            rotate_left
            · intro w'
              go_simp
              first | with_reducible rfl | (rw [if_neg (by (try simp only [ByteArray.size_extract] at *); omega)])
            rotate_left
            · simp only [Act.put, List.setIfInBounds_toArray, List.set_cons_zero, List.set_cons_succ, i64_w, i32_w]
              rfl
            refine pure_ (i := 5) (N := some 24) (v := ?_) (a' := ?_) #[true, true, true, true, false, true, false, false, false, false, false, false] rfl rfl (any_of HT_.out (by kernel_rfl)) (fun _ _ _ h => h) (Or.inl ⟨by rfl, ?_⟩) ?_ ?_
            rotate_left
            · intro w'
              go_simp
              first | with_reducible rfl | (rw [if_neg (by (try simp only [ByteArray.size_extract] at *); omega)])
            rotate_left
            · simp only [Act.put, List.setIfInBounds_toArray, List.set_cons_zero, List.set_cons_succ, i64_w, i32_w]
              rfl
            refine pure_ (i := 6) (N := some 25) (v := ?_) (a' := ?_) #[true, true, true, true, false, true, true, false, false, false, false, false] rfl rfl (any_of HT_.out (by kernel_rfl)) (fun _ _ _ h => h) (Or.inl ⟨by rfl, ?_⟩) ?_ ?_
            rotate_left
            · intro w'
              go_simp
              first | with_reducible rfl | (rw [if_neg (by (try simp only [ByteArray.size_extract] at *); omega)])
            rotate_left
            · simp only [Act.put, List.setIfInBounds_toArray, List.set_cons_zero, List.set_cons_succ, i64_w, i32_w]
              rfl
            refine pure_ (i := 7) (N := some 26) (v := ?_) (a' := ?_) #[true, true, true, true, false, true, true, true, false, false, false, false] rfl rfl (any_of HT_.out (by kernel_rfl)) (fun _ _ _ h => h) (Or.inl ⟨by rfl, ?_⟩) ?_ ?_
            rotate_left
            · intro w'
              go_simp
              first | with_reducible rfl | (rw [if_neg (by (try simp only [ByteArray.size_extract] at *); omega)])
            rotate_left
            · simp only [Act.put, List.setIfInBounds_toArray, List.set_cons_zero, List.set_cons_succ, i64_w, i32_w]
              rfl
            refine pure_ (i := 8) (N := some 27) (v := ?_) (a' := ?_) #[true, true, true, true, false, true, true, true, true, false, false, false] rfl rfl (any_of HT_.out (by kernel_rfl)) (fun _ _ _ h => h) (Or.inl ⟨by rfl, ?_⟩) ?_ ?_
            rotate_left
            · intro w'
              go_simp
              first | with_reducible rfl | (rw [if_neg (by (try simp only [ByteArray.size_extract] at *); omega)])
            rotate_left
            · simp only [Act.put, List.setIfInBounds_toArray, List.set_cons_zero, List.set_cons_succ, i64_w, i32_w]
              rfl
            refine take_ (i := 4) (N := some 23) (v := ?_) (a' := ?_) #[true, true, true, true, true, true, true, true, true, false, false, false] rfl rfl (take_ofW HT_.out HW_.out (by kernel_rfl)) (fun _ _ _ h => h) (Or.inl ⟨by rfl, ?_⟩) hHeld ?_ ?_
            rotate_left
            · rintro w' ⟨s0, s1, s2, s3, s4, s5⟩
              go_simp
              first | with_reducible rfl | (rw [if_neg (by (try simp only [ByteArray.size_extract] at *); omega)])
            rotate_left
            · simp only [Act.put, List.setIfInBounds_toArray, List.set_cons_zero, List.set_cons_succ, i64_w, i32_w]
              rfl
            refine take_ (i := 9) (N := some 28) (v := ?_) (a' := ?_) #[true, true, true, true, true, true, true, true, true, true, false, false] rfl rfl (take_ofW HT_.out HW_.out (by kernel_rfl)) (fun _ _ _ h => h) (Or.inl ⟨by rfl, ?_⟩) hHeld ?_ ?_
            rotate_left
            · rintro w' ⟨s0, s1, s2, s3, s4, s5⟩
              go_simp
              first | with_reducible rfl | (rw [if_neg (by (try simp only [ByteArray.size_extract] at *); omega)])
            rotate_left
            · simp only [Act.put, List.setIfInBounds_toArray, List.set_cons_zero, List.set_cons_succ, i64_w, i32_w]
              rfl
            refine one_ (i := 10) (N := some 29) #[true, true, true, true, true, true, true, true, true, true, true, false] rfl rfl (one_of HT_.out (by kernel_rfl)) (by decide) (fun K hK => ?_)
            refine Kd.R_lit_step (Kd.int .i32) _ 21 ?hg (N := 29) ?hd (xs := ([(rd_T48 t334 x4_1).f1, (rd_T48 t334 x4_1).f2] : List Int)) (inner := [.int .i32 ((rd_T48 t334 x4_1).f1), .int .i32 ((rd_T48 t334 x4_1).f2)]) (ok := fun _ => True) (okp := fun _ => True) ?hr ?hp (fun _ hk => hk) trivial (Below.refl _ _) (Nat.le_refl _) (by simp) ?_; (case hd => rfl); (case hg => rfl); (case hr => first | (go_simp; done) | (go_simp; rfl)); (case hp => exact (Reps.one (show Kd.M (Kd.int .i32) _ _ _ ((rd_T48 t334 x4_1).f1) [.int .i32 ((rd_T48 t334 x4_1).f1)] from rfl) (Reps.one (show Kd.M (Kd.int .i32) _ _ _ ((rd_T48 t334 x4_1).f2) [.int .i32 ((rd_T48 t334 x4_1).f2)] from rfl) (Reps.none _ _))))
            intro v341 w9 ho10 hb hg_ hnew_
            have HS0_ := (hb.cell (World.block_lt_of_cell? _ _ (hHeld.1))).trans (hHeld.1)
            have HS1_ := (hb.cell (World.block_lt_of_cell? _ _ (hHeld.2.1))).trans (hHeld.2.1)
            have HS2_ := (hb.cell (World.block_lt_of_cell? _ _ (hHeld.2.2.1))).trans (hHeld.2.2.1)
            have HS3_ := (hb.cell (World.block_lt_of_cell? _ _ (hHeld.2.2.2.1))).trans (hHeld.2.2.2.1)
            have HS4_ := (hb.cell (World.block_lt_of_cell? _ _ (hHeld.2.2.2.2.1))).trans (hHeld.2.2.2.2.1)
            have HS5_ := (hb.cell (World.block_lt_of_cell? _ _ (hHeld.2.2.2.2.2))).trans (hHeld.2.2.2.2.2)
            clear hg_ hnew_
            (first | rw [← Ny340.out] at ho10 | (simp only [Int.reduceToNat] at ho10; rw [← Ny340.out] at ho10))
            have n0_ := Aside0.mk (Kd.R_below (by (with_reducible repeat (first | apply Kd.R_alloc | apply Kd.R_drewN | apply Kd.R_drew)); exact HO_3.out) hb)
            have n1_ := Aside0.mk (Kd.R_lower ho10 (below_size (by repeat (first | (with_reducible first | exact HB.out | apply below_alloc | apply pw_below_drewN | apply below_drew1) | exact HB.out))))
            have n2_ := Aside0.mk (below_step (by repeat (first | (with_reducible first | exact HB.out | apply below_alloc | apply pw_below_drewN | apply below_drew1) | exact HB.out)) hb)
            clear HO_3
            clear HB
            have HO_3 := n0_
            have HO342 := n1_
            have HB := n2_
            clear n0_ n1_ n2_
            clear hb ho10
            refine hK.out _ _ ⟨HS0_, HS1_, HS2_, HS3_, HS4_, HS5_⟩ (fun hHeld => ?_)
            clear hK K
            refine norm_ (a' := ?_) ?_ ?_
            rotate_left
            · show Act.put _ (some 29) _ = _
              simp only [Act.put, List.setIfInBounds_toArray, List.set_cons_zero, List.set_cons_succ, i64_w, i32_w]
              rfl
            refine pure_ (i := 11) (N := some 2) (v := ?_) (a' := ?_) #[true, true, true, true, true, true, true, true, true, true, true, true] rfl rfl (any_of HT_.out (by kernel_rfl)) (fun _ _ _ h => h) (Or.inl ⟨by rfl, ?_⟩) ?_ ?_
            rotate_left
            · intro w'
              go_simp
              first | with_reducible rfl | (rw [if_neg (by (try simp only [ByteArray.size_extract] at *); omega)])
            rotate_left
            · simp only [Act.put, List.setIfInBounds_toArray, List.set_cons_zero, List.set_cons_succ, i64_w, i32_w]
              rfl
            refine done_ (done_of HT_.out (by kernel_rfl)) ?_
            try go_wp2
            go_ret
            exact ⟨_, by first | rfl | (simp [errW_none, errW_some] <;> rfl) | (simp [*, errW_none, errW_some] <;> rfl), by (with_reducible repeat (first | apply Kd.R_alloc | apply Kd.R_drewN | apply Kd.R_drew)); exact HO342.out, by repeat (first | (with_reducible first | exact HB.out | apply below_alloc | apply pw_below_drewN | apply below_drew1) | exact HB.out)⟩
          · rw [if_neg c6] at H
            have c6b0 : (((rd_T48 t334 x4_1).f0) == a0) = false := beq_eq_false_iff_ne.mpr c6
            have c6b1 : (((rd_T48 t334 x4_1).f0) != a0) = true := bne_iff_ne.mpr c6
            have H' := Aside0.mk H
            clear H
            obtain ⟨Ao11, co11, eo11⟩ := Kd.R_slice HO_3.out
            subst eo11
            have p337 : 0 ≤ (x4_1 : Int) := of_decide_eq_true (by first | (with_reducible assumption) | assumption)
            have q337 : x4_1 < (t334.length : Int) := of_decide_eq_true (by first | (with_reducible assumption) | assumption)
            obtain ⟨ad337, e337, hx337_0, hx337_1, hx337_2⟩ := at_T48 (Kd.R_reads' HO_3.out).2.2 x4_1 p337 q337
            cases e337
            replace p337 := eq_true p337
            replace q337 := eq_true q337
            go_wp2
            go_roundg k1
            case measure => have := HK1.out; omega
            case rel => exact ⟨(wrap64 (x4_1 + 1)), (by first | rfl | (simp; done) | (simp [*]; done)), H', ⟨by have := HK1.out; omega⟩, ⟨by (with_reducible repeat (first | apply Kd.R_alloc | apply Kd.R_drewN | apply Kd.R_drew)); exact HO_3.out⟩, ⟨by repeat (first | (with_reducible first | exact HB.out | apply below_alloc | apply pw_below_drewN | apply below_drew1) | exact HB.out)⟩⟩
        · rw [if_neg c5] at H
          exact absurd H (by simp)
      · rw [if_neg c4] at H
        have c4b0 : decide (x4_1 < (t334.length : Int)) = false := decide_eq_false c4
        clear c4
        by_cases c12 : a0 = 8486
        · rw [if_pos c12] at H
          have c12b0 : (a0 == 8486) = true := beq_iff_eq.mpr c12
          have c12b1 : (a0 != 8486) = false := bne_eq_false_iff_eq.mpr c12
          clear c12
          obtain ⟨y343, hy343⟩ : ∃ y_ : List Int, y_ = (([937] : List Int)) := ⟨_, rfl⟩
          replace H : (some y343) = some r := by first | (rw [hy343]; with_reducible exact H) | (have H2_ := (Option.bind_some _ _).symm.trans H; rw [hy343]; with_reducible exact H2_) | (have H2_ := (Option.bind_some _ _).symm.trans H; with_reducible exact H2_) | with_reducible exact H | (rw [hy343]; exact H) | exact H
          have Ny343 := Aside0.mk hy343
          clear hy343
          obtain rfl := Option.some.inj H
          obtain ⟨Ao13, co13, eo13⟩ := Kd.R_slice HO_3.out
          subst eo13
          go_wp2_with (first | ((with_reducible refine gate_dst (N := 33) rfl ?_); refine Kd.R_lit (Kd.int .i32) _ 21 ?hg (N := 33) ?hd (xs := ([937] : List Int)) (inner := [.int .i32 937]) (ok := fun _ => True) (okp := fun _ => True) ?hr ?hp (fun _ hk => hk) trivial (Below.refl _ _) (Nat.le_refl _) (by simp) ?_; (case hd => rfl); (case hg => rfl); (case hr => first | (go_simp; done) | (go_simp; rfl)); (case hp => exact (Reps.one (show Kd.M (Kd.int .i32) _ _ _ 937 [.int .i32 937] from rfl) (Reps.none _ _))); intro v344 w14 ho15 hb hg_ hnew_; clear hg_ hnew_; (first | rw [← Ny343.out] at ho15 | (simp only [Int.reduceToNat] at ho15; rw [← Ny343.out] at ho15)); have n0_ := Aside0.mk (Kd.R_below (by (with_reducible repeat (first | apply Kd.R_alloc | apply Kd.R_drewN | apply Kd.R_drew)); exact HO_3.out) hb); have n1_ := Aside0.mk (Kd.R_lower ho15 (below_size (by repeat (first | (with_reducible first | exact HB.out | apply below_alloc | apply pw_below_drewN | apply below_drew1) | exact HB.out)))); have n2_ := Aside0.mk (below_step (by repeat (first | (with_reducible first | exact HB.out | apply below_alloc | apply pw_below_drewN | apply below_drew1) | exact HB.out)) hb); clear HO_3; clear HB; have HO_3 := n0_; have HO345 := n1_; have HB := n2_; clear n0_ n1_ n2_; clear hb ho15))
          go_ret
          exact ⟨_, by first | rfl | (simp [errW_none, errW_some] <;> rfl) | (simp [*, errW_none, errW_some] <;> rfl), by (with_reducible repeat (first | apply Kd.R_alloc | apply Kd.R_drewN | apply Kd.R_drew)); exact HO345.out, by repeat (first | (with_reducible first | exact HB.out | apply below_alloc | apply pw_below_drewN | apply below_drew1) | exact HB.out)⟩
        · rw [if_neg c12] at H
          have c12b0 : (a0 == 8486) = false := beq_eq_false_iff_ne.mpr c12
          have c12b1 : (a0 != 8486) = true := bne_iff_ne.mpr c12
          by_cases c16 : a0 = 8490
          · rw [if_pos c16] at H
            have c16b0 : (a0 == 8490) = true := beq_iff_eq.mpr c16
            have c16b1 : (a0 != 8490) = false := bne_eq_false_iff_eq.mpr c16
            clear c16
            obtain ⟨y346, hy346⟩ : ∃ y_ : List Int, y_ = (([75] : List Int)) := ⟨_, rfl⟩
            replace H : (some y346) = some r := by first | (rw [hy346]; with_reducible exact H) | (have H2_ := (Option.bind_some _ _).symm.trans H; rw [hy346]; with_reducible exact H2_) | (have H2_ := (Option.bind_some _ _).symm.trans H; with_reducible exact H2_) | with_reducible exact H | (rw [hy346]; exact H) | exact H
            have Ny346 := Aside0.mk hy346
            clear hy346
            obtain rfl := Option.some.inj H
            obtain ⟨Ao17, co17, eo17⟩ := Kd.R_slice HO_3.out
            subst eo17
            go_wp2_with (first | ((with_reducible refine gate_dst (N := 36) rfl ?_); refine Kd.R_lit (Kd.int .i32) _ 21 ?hg (N := 36) ?hd (xs := ([75] : List Int)) (inner := [.int .i32 75]) (ok := fun _ => True) (okp := fun _ => True) ?hr ?hp (fun _ hk => hk) trivial (Below.refl _ _) (Nat.le_refl _) (by simp) ?_; (case hd => rfl); (case hg => rfl); (case hr => first | (go_simp; done) | (go_simp; rfl)); (case hp => exact (Reps.one (show Kd.M (Kd.int .i32) _ _ _ 75 [.int .i32 75] from rfl) (Reps.none _ _))); intro v347 w18 ho19 hb hg_ hnew_; clear hg_ hnew_; (first | rw [← Ny346.out] at ho19 | (simp only [Int.reduceToNat] at ho19; rw [← Ny346.out] at ho19)); have n0_ := Aside0.mk (Kd.R_below (by (with_reducible repeat (first | apply Kd.R_alloc | apply Kd.R_drewN | apply Kd.R_drew)); exact HO_3.out) hb); have n1_ := Aside0.mk (Kd.R_lower ho19 (below_size (by repeat (first | (with_reducible first | exact HB.out | apply below_alloc | apply pw_below_drewN | apply below_drew1) | exact HB.out)))); have n2_ := Aside0.mk (below_step (by repeat (first | (with_reducible first | exact HB.out | apply below_alloc | apply pw_below_drewN | apply below_drew1) | exact HB.out)) hb); clear HO_3; clear HB; have HO_3 := n0_; have HO348 := n1_; have HB := n2_; clear n0_ n1_ n2_; clear hb ho19))
            go_ret
            exact ⟨_, by first | rfl | (simp [errW_none, errW_some] <;> rfl) | (simp [*, errW_none, errW_some] <;> rfl), by (with_reducible repeat (first | apply Kd.R_alloc | apply Kd.R_drewN | apply Kd.R_drew)); exact HO348.out, by repeat (first | (with_reducible first | exact HB.out | apply below_alloc | apply pw_below_drewN | apply below_drew1) | exact HB.out)⟩
          · rw [if_neg c16] at H
            have c16b0 : (a0 == 8490) = false := beq_eq_false_iff_ne.mpr c16
            have c16b1 : (a0 != 8490) = true := bne_iff_ne.mpr c16
            by_cases c20 : a0 = 8491
            · rw [if_pos c20] at H
              have c20b0 : (a0 == 8491) = true := beq_iff_eq.mpr c20
              have c20b1 : (a0 != 8491) = false := bne_eq_false_iff_eq.mpr c20
              clear c20
              obtain ⟨y349, hy349⟩ : ∃ y_ : List Int, y_ = (([197] : List Int)) := ⟨_, rfl⟩
              replace H : (some y349) = some r := by first | (rw [hy349]; with_reducible exact H) | (have H2_ := (Option.bind_some _ _).symm.trans H; rw [hy349]; with_reducible exact H2_) | (have H2_ := (Option.bind_some _ _).symm.trans H; with_reducible exact H2_) | with_reducible exact H | (rw [hy349]; exact H) | exact H
              have Ny349 := Aside0.mk hy349
              clear hy349
              obtain rfl := Option.some.inj H
              obtain ⟨Ao21, co21, eo21⟩ := Kd.R_slice HO_3.out
              subst eo21
              go_wp2_with (first | ((with_reducible refine gate_dst (N := 39) rfl ?_); refine Kd.R_lit (Kd.int .i32) _ 21 ?hg (N := 39) ?hd (xs := ([197] : List Int)) (inner := [.int .i32 197]) (ok := fun _ => True) (okp := fun _ => True) ?hr ?hp (fun _ hk => hk) trivial (Below.refl _ _) (Nat.le_refl _) (by simp) ?_; (case hd => rfl); (case hg => rfl); (case hr => first | (go_simp; done) | (go_simp; rfl)); (case hp => exact (Reps.one (show Kd.M (Kd.int .i32) _ _ _ 197 [.int .i32 197] from rfl) (Reps.none _ _))); intro v350 w22 ho23 hb hg_ hnew_; clear hg_ hnew_; (first | rw [← Ny349.out] at ho23 | (simp only [Int.reduceToNat] at ho23; rw [← Ny349.out] at ho23)); have n0_ := Aside0.mk (Kd.R_below (by (with_reducible repeat (first | apply Kd.R_alloc | apply Kd.R_drewN | apply Kd.R_drew)); exact HO_3.out) hb); have n1_ := Aside0.mk (Kd.R_lower ho23 (below_size (by repeat (first | (with_reducible first | exact HB.out | apply below_alloc | apply pw_below_drewN | apply below_drew1) | exact HB.out)))); have n2_ := Aside0.mk (below_step (by repeat (first | (with_reducible first | exact HB.out | apply below_alloc | apply pw_below_drewN | apply below_drew1) | exact HB.out)) hb); clear HO_3; clear HB; have HO_3 := n0_; have HO351 := n1_; have HB := n2_; clear n0_ n1_ n2_; clear hb ho23))
              go_ret
              exact ⟨_, by first | rfl | (simp [errW_none, errW_some] <;> rfl) | (simp [*, errW_none, errW_some] <;> rfl), by (with_reducible repeat (first | apply Kd.R_alloc | apply Kd.R_drewN | apply Kd.R_drew)); exact HO351.out, by repeat (first | (with_reducible first | exact HB.out | apply below_alloc | apply pw_below_drewN | apply below_drew1) | exact HB.out)⟩
            · rw [if_neg c20] at H
              have c20b0 : (a0 == 8491) = false := beq_eq_false_iff_ne.mpr c20
              have c20b1 : (a0 != 8491) = true := bne_iff_ne.mpr c20
              obtain rfl := Option.some.inj H
              obtain ⟨Ao24, co24, eo24⟩ := Kd.R_slice HO_3.out
              subst eo24
              go_wp2
              go_ret
              exact ⟨_, by first | rfl | (simp [errW_none, errW_some] <;> rfl) | (simp [*, errW_none, errW_some] <;> rfl), by first | exact Kd.R_nil _ _ _ _ _ | exact Kd.N_nil _ _ _ _ _ | exact Kd.V_nil _ _ _ _ _ | exact Kd.Q_nil _ _ _ _ _ | exact Kd.S_nil _ _ _ _ _, by repeat (first | (with_reducible first | exact HB.out | apply below_alloc | apply pw_below_drewN | apply below_drew1) | exact HB.out)⟩

end Go.Proofs.Ytkdhmdmmdbmeaaa.Pr
