import Derived.Test.YtkdhmdmmdbmeaaaKto0
namespace Go.Proofs.Ytkdhmdmmdbmeaaa.Pr
open Go.RowKit Go.Proofs.YtkdhmdmmdbmeaaaW.PrintWords Go.Proofs.YtkdhmdmmdbmeaaaW.PrintLast Go.Proofs.YtkdhmdmmdbmeaaaW.PrintMore
set_option linter.unusedVariables false
set_option linter.unusedSimpArgs false

set_option maxHeartbeats 4000000 in
set_option maxRecDepth 100000 in
theorem to_19 (r : Int) (w : World) (hlo : 7776 ≤ r) (hhi : r ≤ 7776) : Calls Try.prog 25 #[.int .i32 r] w (ToRes w [7777]) := by
  have : decide (65 ≤ r) = true := decide_eq_true (by omega)
  have : decide (r ≤ 90) = false := decide_eq_false (by omega)
  have : decide (192 ≤ r) = true := decide_eq_true (by omega)
  have : decide (r ≤ 214) = false := decide_eq_false (by omega)
  have : decide (216 ≤ r) = true := decide_eq_true (by omega)
  have : decide (r ≤ 222) = false := decide_eq_false (by omega)
  have : decide (913 ≤ r) = true := decide_eq_true (by omega)
  have : decide (r ≤ 929) = false := decide_eq_false (by omega)
  have : decide (931 ≤ r) = true := decide_eq_true (by omega)
  have : decide (r ≤ 937) = false := decide_eq_false (by omega)
  have : decide (1040 ≤ r) = true := decide_eq_true (by omega)
  have : decide (r ≤ 1071) = false := decide_eq_false (by omega)
  have : (r == 170) = false := by simp; omega
  have : decide (178 ≤ r) = true := decide_eq_true (by omega)
  have : decide (r ≤ 179) = false := decide_eq_false (by omega)
  have : (r == 185) = false := by simp; omega
  have : (r == 186) = false := by simp; omega
  have : (r == 376) = false := by simp; omega
  have : (r == 469) = false := by simp; omega
  have : (r == 902) = false := by simp; omega
  have : decide (904 ≤ r) = true := decide_eq_true (by omega)
  have : decide (r ≤ 906) = false := decide_eq_false (by omega)
  have : (r == 908) = false := by simp; omega
  have : decide (910 ≤ r) = true := decide_eq_true (by omega)
  have : decide (r ≤ 911) = false := decide_eq_false (by omega)
  have : (r == 1025) = false := by simp; omega
  have : decide (1029 ≤ r) = true := decide_eq_true (by omega)
  have : decide (r ≤ 1030) = false := decide_eq_false (by omega)
  have : (r == 1032) = false := by simp; omega
  have : (r == 7776) = true := by simp; omega
  clear hlo hhi
  go_enter Try.func25, Try.ntmps25
  go_wp2_with (first | ((with_reducible refine gate_dst (N := 122) rfl ?_); refine Kd.R_lit (Kd.int .i32) _ 21 ?hg (N := 122) ?hd (xs := ([7777] : List Int)) (inner := [.int .i32 7777]) (ok := fun _ => True) (okp := fun _ => True) ?hr ?hp (fun _ hk => hk) trivial (Below.refl _ _) (Nat.le_refl _) (by simp) ?_; (case hd => rfl); (case hg => rfl); (case hr => first | (go_simp; done) | (go_simp; rfl)); (case hp => exact (Reps.one (show Kd.M (Kd.int .i32) _ _ _ 7777 [.int .i32 7777] from rfl) (Reps.none _ _))); intro v204 w5 ho6 hb hg_ hnew_; clear hg_ hnew_))
  go_ret
  exact ⟨_, rfl, ho6, hb⟩
set_option maxHeartbeats 4000000 in
set_option maxRecDepth 100000 in
theorem to_20 (r : Int) (w : World) (hlo : 7778 ≤ r) (hhi : r ≤ 7778) : Calls Try.prog 25 #[.int .i32 r] w (ToRes w [7779]) := by
  have : decide (65 ≤ r) = true := decide_eq_true (by omega)
  have : decide (r ≤ 90) = false := decide_eq_false (by omega)
  have : decide (192 ≤ r) = true := decide_eq_true (by omega)
  have : decide (r ≤ 214) = false := decide_eq_false (by omega)
  have : decide (216 ≤ r) = true := decide_eq_true (by omega)
  have : decide (r ≤ 222) = false := decide_eq_false (by omega)
  have : decide (913 ≤ r) = true := decide_eq_true (by omega)
  have : decide (r ≤ 929) = false := decide_eq_false (by omega)
  have : decide (931 ≤ r) = true := decide_eq_true (by omega)
  have : decide (r ≤ 937) = false := decide_eq_false (by omega)
  have : decide (1040 ≤ r) = true := decide_eq_true (by omega)
  have : decide (r ≤ 1071) = false := decide_eq_false (by omega)
  have : (r == 170) = false := by simp; omega
  have : decide (178 ≤ r) = true := decide_eq_true (by omega)
  have : decide (r ≤ 179) = false := decide_eq_false (by omega)
  have : (r == 185) = false := by simp; omega
  have : (r == 186) = false := by simp; omega
  have : (r == 376) = false := by simp; omega
  have : (r == 469) = false := by simp; omega
  have : (r == 902) = false := by simp; omega
  have : decide (904 ≤ r) = true := decide_eq_true (by omega)
  have : decide (r ≤ 906) = false := decide_eq_false (by omega)
  have : (r == 908) = false := by simp; omega
  have : decide (910 ≤ r) = true := decide_eq_true (by omega)
  have : decide (r ≤ 911) = false := decide_eq_false (by omega)
  have : (r == 1025) = false := by simp; omega
  have : decide (1029 ≤ r) = true := decide_eq_true (by omega)
  have : decide (r ≤ 1030) = false := decide_eq_false (by omega)
  have : (r == 1032) = false := by simp; omega
  have : (r == 7776) = false := by simp; omega
  have : (r == 7778) = true := by simp; omega
  clear hlo hhi
  go_enter Try.func25, Try.ntmps25
  go_wp2_with (first | ((with_reducible refine gate_dst (N := 126) rfl ?_); refine Kd.R_lit (Kd.int .i32) _ 21 ?hg (N := 126) ?hd (xs := ([7779] : List Int)) (inner := [.int .i32 7779]) (ok := fun _ => True) (okp := fun _ => True) ?hr ?hp (fun _ hk => hk) trivial (Below.refl _ _) (Nat.le_refl _) (by simp) ?_; (case hd => rfl); (case hg => rfl); (case hr => first | (go_simp; done) | (go_simp; rfl)); (case hp => exact (Reps.one (show Kd.M (Kd.int .i32) _ _ _ 7779 [.int .i32 7779] from rfl) (Reps.none _ _))); intro v204 w5 ho6 hb hg_ hnew_; clear hg_ hnew_))
  go_ret
  exact ⟨_, rfl, ho6, hb⟩
set_option maxHeartbeats 4000000 in
set_option maxRecDepth 100000 in
theorem to_21 (r : Int) (w : World) (hlo : 7784 ≤ r) (hhi : r ≤ 7784) : Calls Try.prog 25 #[.int .i32 r] w (ToRes w [7785]) := by
  have : decide (65 ≤ r) = true := decide_eq_true (by omega)
  have : decide (r ≤ 90) = false := decide_eq_false (by omega)
  have : decide (192 ≤ r) = true := decide_eq_true (by omega)
  have : decide (r ≤ 214) = false := decide_eq_false (by omega)
  have : decide (216 ≤ r) = true := decide_eq_true (by omega)
  have : decide (r ≤ 222) = false := decide_eq_false (by omega)
  have : decide (913 ≤ r) = true := decide_eq_true (by omega)
  have : decide (r ≤ 929) = false := decide_eq_false (by omega)
  have : decide (931 ≤ r) = true := decide_eq_true (by omega)
  have : decide (r ≤ 937) = false := decide_eq_false (by omega)
  have : decide (1040 ≤ r) = true := decide_eq_true (by omega)
  have : decide (r ≤ 1071) = false := decide_eq_false (by omega)
  have : (r == 170) = false := by simp; omega
  have : decide (178 ≤ r) = true := decide_eq_true (by omega)
  have : decide (r ≤ 179) = false := decide_eq_false (by omega)
  have : (r == 185) = false := by simp; omega
  have : (r == 186) = false := by simp; omega
  have : (r == 376) = false := by simp; omega
  have : (r == 469) = false := by simp; omega
  have : (r == 902) = false := by simp; omega
  have : decide (904 ≤ r) = true := decide_eq_true (by omega)
  have : decide (r ≤ 906) = false := decide_eq_false (by omega)
  have : (r == 908) = false := by simp; omega
  have : decide (910 ≤ r) = true := decide_eq_true (by omega)
  have : decide (r ≤ 911) = false := decide_eq_false (by omega)
  have : (r == 1025) = false := by simp; omega
  have : decide (1029 ≤ r) = true := decide_eq_true (by omega)
  have : decide (r ≤ 1030) = false := decide_eq_false (by omega)
  have : (r == 1032) = false := by simp; omega
  have : (r == 7776) = false := by simp; omega
  have : (r == 7778) = false := by simp; omega
  have : (r == 7784) = true := by simp; omega
  clear hlo hhi
  go_enter Try.func25, Try.ntmps25
  go_wp2_with (first | ((with_reducible refine gate_dst (N := 130) rfl ?_); refine Kd.R_lit (Kd.int .i32) _ 21 ?hg (N := 130) ?hd (xs := ([7785] : List Int)) (inner := [.int .i32 7785]) (ok := fun _ => True) (okp := fun _ => True) ?hr ?hp (fun _ hk => hk) trivial (Below.refl _ _) (Nat.le_refl _) (by simp) ?_; (case hd => rfl); (case hg => rfl); (case hr => first | (go_simp; done) | (go_simp; rfl)); (case hp => exact (Reps.one (show Kd.M (Kd.int .i32) _ _ _ 7785 [.int .i32 7785] from rfl) (Reps.none _ _))); intro v204 w5 ho6 hb hg_ hnew_; clear hg_ hnew_))
  go_ret
  exact ⟨_, rfl, ho6, hb⟩
set_option maxHeartbeats 4000000 in
set_option maxRecDepth 100000 in
theorem to_22 (r : Int) (w : World) (hlo : 7838 ≤ r) (hhi : r ≤ 7838) : Calls Try.prog 25 #[.int .i32 r] w (ToRes w [115, 115]) := by
  have : decide (65 ≤ r) = true := decide_eq_true (by omega)
  have : decide (r ≤ 90) = false := decide_eq_false (by omega)
  have : decide (192 ≤ r) = true := decide_eq_true (by omega)
  have : decide (r ≤ 214) = false := decide_eq_false (by omega)
  have : decide (216 ≤ r) = true := decide_eq_true (by omega)
  have : decide (r ≤ 222) = false := decide_eq_false (by omega)
  have : decide (913 ≤ r) = true := decide_eq_true (by omega)
  have : decide (r ≤ 929) = false := decide_eq_false (by omega)
  have : decide (931 ≤ r) = true := decide_eq_true (by omega)
  have : decide (r ≤ 937) = false := decide_eq_false (by omega)
  have : decide (1040 ≤ r) = true := decide_eq_true (by omega)
  have : decide (r ≤ 1071) = false := decide_eq_false (by omega)
  have : (r == 170) = false := by simp; omega
  have : decide (178 ≤ r) = true := decide_eq_true (by omega)
  have : decide (r ≤ 179) = false := decide_eq_false (by omega)
  have : (r == 185) = false := by simp; omega
  have : (r == 186) = false := by simp; omega
  have : (r == 376) = false := by simp; omega
  have : (r == 469) = false := by simp; omega
  have : (r == 902) = false := by simp; omega
  have : decide (904 ≤ r) = true := decide_eq_true (by omega)
  have : decide (r ≤ 906) = false := decide_eq_false (by omega)
  have : (r == 908) = false := by simp; omega
  have : decide (910 ≤ r) = true := decide_eq_true (by omega)
  have : decide (r ≤ 911) = false := decide_eq_false (by omega)
  have : (r == 1025) = false := by simp; omega
  have : decide (1029 ≤ r) = true := decide_eq_true (by omega)
  have : decide (r ≤ 1030) = false := decide_eq_false (by omega)
  have : (r == 1032) = false := by simp; omega
  have : (r == 7776) = false := by simp; omega
  have : (r == 7778) = false := by simp; omega
  have : (r == 7784) = false := by simp; omega
  have : (r == 7838) = true := by simp; omega
  clear hlo hhi
  go_enter Try.func25, Try.ntmps25
  go_wp2_with (first | ((with_reducible refine gate_dst (N := 134) rfl ?_); refine Kd.R_lit (Kd.int .i32) _ 21 ?hg (N := 134) ?hd (xs := ([115, 115] : List Int)) (inner := [.int .i32 115, .int .i32 115]) (ok := fun _ => True) (okp := fun _ => True) ?hr ?hp (fun _ hk => hk) trivial (Below.refl _ _) (Nat.le_refl _) (by simp) ?_; (case hd => rfl); (case hg => rfl); (case hr => first | (go_simp; done) | (go_simp; rfl)); (case hp => exact (Reps.one (show Kd.M (Kd.int .i32) _ _ _ 115 [.int .i32 115] from rfl) (Reps.one (show Kd.M (Kd.int .i32) _ _ _ 115 [.int .i32 115] from rfl) (Reps.none _ _)))); intro v204 w5 ho6 hb hg_ hnew_; clear hg_ hnew_))
  go_ret
  exact ⟨_, rfl, ho6, hb⟩
set_option maxHeartbeats 4000000 in
set_option maxRecDepth 100000 in
theorem to_23 (r : Int) (w : World) (hlo : 8486 ≤ r) (hhi : r ≤ 8486) : Calls Try.prog 25 #[.int .i32 r] w (ToRes w [969]) := by
  have : decide (65 ≤ r) = true := decide_eq_true (by omega)
  have : decide (r ≤ 90) = false := decide_eq_false (by omega)
  have : decide (192 ≤ r) = true := decide_eq_true (by omega)
  have : decide (r ≤ 214) = false := decide_eq_false (by omega)
  have : decide (216 ≤ r) = true := decide_eq_true (by omega)
  have : decide (r ≤ 222) = false := decide_eq_false (by omega)
  have : decide (913 ≤ r) = true := decide_eq_true (by omega)
  have : decide (r ≤ 929) = false := decide_eq_false (by omega)
  have : decide (931 ≤ r) = true := decide_eq_true (by omega)
  have : decide (r ≤ 937) = false := decide_eq_false (by omega)
  have : decide (1040 ≤ r) = true := decide_eq_true (by omega)
  have : decide (r ≤ 1071) = false := decide_eq_false (by omega)
  have : (r == 170) = false := by simp; omega
  have : decide (178 ≤ r) = true := decide_eq_true (by omega)
  have : decide (r ≤ 179) = false := decide_eq_false (by omega)
  have : (r == 185) = false := by simp; omega
  have : (r == 186) = false := by simp; omega
  have : (r == 376) = false := by simp; omega
  have : (r == 469) = false := by simp; omega
  have : (r == 902) = false := by simp; omega
  have : decide (904 ≤ r) = true := decide_eq_true (by omega)
  have : decide (r ≤ 906) = false := decide_eq_false (by omega)
  have : (r == 908) = false := by simp; omega
  have : decide (910 ≤ r) = true := decide_eq_true (by omega)
  have : decide (r ≤ 911) = false := decide_eq_false (by omega)
  have : (r == 1025) = false := by simp; omega
  have : decide (1029 ≤ r) = true := decide_eq_true (by omega)
  have : decide (r ≤ 1030) = false := decide_eq_false (by omega)
  have : (r == 1032) = false := by simp; omega
  have : (r == 7776) = false := by simp; omega
  have : (r == 7778) = false := by simp; omega
  have : (r == 7784) = false := by simp; omega
  have : (r == 7838) = false := by simp; omega
  have : (r == 8486) = true := by simp; omega
  clear hlo hhi
  go_enter Try.func25, Try.ntmps25
  go_wp2_with (first | ((with_reducible refine gate_dst (N := 138) rfl ?_); refine Kd.R_lit (Kd.int .i32) _ 21 ?hg (N := 138) ?hd (xs := ([969] : List Int)) (inner := [.int .i32 969]) (ok := fun _ => True) (okp := fun _ => True) ?hr ?hp (fun _ hk => hk) trivial (Below.refl _ _) (Nat.le_refl _) (by simp) ?_; (case hd => rfl); (case hg => rfl); (case hr => first | (go_simp; done) | (go_simp; rfl)); (case hp => exact (Reps.one (show Kd.M (Kd.int .i32) _ _ _ 969 [.int .i32 969] from rfl) (Reps.none _ _))); intro v204 w5 ho6 hb hg_ hnew_; clear hg_ hnew_))
  go_ret
  exact ⟨_, rfl, ho6, hb⟩
set_option maxHeartbeats 4000000 in
set_option maxRecDepth 100000 in
theorem to_24 (r : Int) (w : World) (hlo : 8490 ≤ r) (hhi : r ≤ 8490) : Calls Try.prog 25 #[.int .i32 r] w (ToRes w [107]) := by
  have : decide (65 ≤ r) = true := decide_eq_true (by omega)
  have : decide (r ≤ 90) = false := decide_eq_false (by omega)
  have : decide (192 ≤ r) = true := decide_eq_true (by omega)
  have : decide (r ≤ 214) = false := decide_eq_false (by omega)
  have : decide (216 ≤ r) = true := decide_eq_true (by omega)
  have : decide (r ≤ 222) = false := decide_eq_false (by omega)
  have : decide (913 ≤ r) = true := decide_eq_true (by omega)
  have : decide (r ≤ 929) = false := decide_eq_false (by omega)
  have : decide (931 ≤ r) = true := decide_eq_true (by omega)
  have : decide (r ≤ 937) = false := decide_eq_false (by omega)
  have : decide (1040 ≤ r) = true := decide_eq_true (by omega)
  have : decide (r ≤ 1071) = false := decide_eq_false (by omega)
  have : (r == 170) = false := by simp; omega
  have : decide (178 ≤ r) = true := decide_eq_true (by omega)
  have : decide (r ≤ 179) = false := decide_eq_false (by omega)
  have : (r == 185) = false := by simp; omega
  have : (r == 186) = false := by simp; omega
  have : (r == 376) = false := by simp; omega
  have : (r == 469) = false := by simp; omega
  have : (r == 902) = false := by simp; omega
  have : decide (904 ≤ r) = true := decide_eq_true (by omega)
  have : decide (r ≤ 906) = false := decide_eq_false (by omega)
  have : (r == 908) = false := by simp; omega
  have : decide (910 ≤ r) = true := decide_eq_true (by omega)
  have : decide (r ≤ 911) = false := decide_eq_false (by omega)
  have : (r == 1025) = false := by simp; omega
  have : decide (1029 ≤ r) = true := decide_eq_true (by omega)
  have : decide (r ≤ 1030) = false := decide_eq_false (by omega)
  have : (r == 1032) = false := by simp; omega
  have : (r == 7776) = false := by simp; omega
  have : (r == 7778) = false := by simp; omega
  have : (r == 7784) = false := by simp; omega
  have : (r == 7838) = false := by simp; omega
  have : (r == 8486) = false := by simp; omega
  have : (r == 8490) = true := by simp; omega
  clear hlo hhi
  go_enter Try.func25, Try.ntmps25
  go_wp2_with (first | ((with_reducible refine gate_dst (N := 142) rfl ?_); refine Kd.R_lit (Kd.int .i32) _ 21 ?hg (N := 142) ?hd (xs := ([107] : List Int)) (inner := [.int .i32 107]) (ok := fun _ => True) (okp := fun _ => True) ?hr ?hp (fun _ hk => hk) trivial (Below.refl _ _) (Nat.le_refl _) (by simp) ?_; (case hd => rfl); (case hg => rfl); (case hr => first | (go_simp; done) | (go_simp; rfl)); (case hp => exact (Reps.one (show Kd.M (Kd.int .i32) _ _ _ 107 [.int .i32 107] from rfl) (Reps.none _ _))); intro v204 w5 ho6 hb hg_ hnew_; clear hg_ hnew_))
  go_ret
  exact ⟨_, rfl, ho6, hb⟩
set_option maxHeartbeats 4000000 in
set_option maxRecDepth 100000 in
theorem to_25 (r : Int) (w : World) (hlo : 8491 ≤ r) (hhi : r ≤ 8491) : Calls Try.prog 25 #[.int .i32 r] w (ToRes w [229]) := by
  have : decide (65 ≤ r) = true := decide_eq_true (by omega)
  have : decide (r ≤ 90) = false := decide_eq_false (by omega)
  have : decide (192 ≤ r) = true := decide_eq_true (by omega)
  have : decide (r ≤ 214) = false := decide_eq_false (by omega)
  have : decide (216 ≤ r) = true := decide_eq_true (by omega)
  have : decide (r ≤ 222) = false := decide_eq_false (by omega)
  have : decide (913 ≤ r) = true := decide_eq_true (by omega)
  have : decide (r ≤ 929) = false := decide_eq_false (by omega)
  have : decide (931 ≤ r) = true := decide_eq_true (by omega)
  have : decide (r ≤ 937) = false := decide_eq_false (by omega)
  have : decide (1040 ≤ r) = true := decide_eq_true (by omega)
  have : decide (r ≤ 1071) = false := decide_eq_false (by omega)
  have : (r == 170) = false := by simp; omega
  have : decide (178 ≤ r) = true := decide_eq_true (by omega)
  have : decide (r ≤ 179) = false := decide_eq_false (by omega)
  have : (r == 185) = false := by simp; omega
  have : (r == 186) = false := by simp; omega
  have : (r == 376) = false := by simp; omega
  have : (r == 469) = false := by simp; omega
  have : (r == 902) = false := by simp; omega
  have : decide (904 ≤ r) = true := decide_eq_true (by omega)
  have : decide (r ≤ 906) = false := decide_eq_false (by omega)
  have : (r == 908) = false := by simp; omega
  have : decide (910 ≤ r) = true := decide_eq_true (by omega)
  have : decide (r ≤ 911) = false := decide_eq_false (by omega)
  have : (r == 1025) = false := by simp; omega
  have : decide (1029 ≤ r) = true := decide_eq_true (by omega)
  have : decide (r ≤ 1030) = false := decide_eq_false (by omega)
  have : (r == 1032) = false := by simp; omega
  have : (r == 7776) = false := by simp; omega
  have : (r == 7778) = false := by simp; omega
  have : (r == 7784) = false := by simp; omega
  have : (r == 7838) = false := by simp; omega
  have : (r == 8486) = false := by simp; omega
  have : (r == 8490) = false := by simp; omega
  have : (r == 8491) = true := by simp; omega
  clear hlo hhi
  go_enter Try.func25, Try.ntmps25
  go_wp2_with (first | ((with_reducible refine gate_dst (N := 146) rfl ?_); refine Kd.R_lit (Kd.int .i32) _ 21 ?hg (N := 146) ?hd (xs := ([229] : List Int)) (inner := [.int .i32 229]) (ok := fun _ => True) (okp := fun _ => True) ?hr ?hp (fun _ hk => hk) trivial (Below.refl _ _) (Nat.le_refl _) (by simp) ?_; (case hd => rfl); (case hg => rfl); (case hr => first | (go_simp; done) | (go_simp; rfl)); (case hp => exact (Reps.one (show Kd.M (Kd.int .i32) _ _ _ 229 [.int .i32 229] from rfl) (Reps.none _ _))); intro v204 w5 ho6 hb hg_ hnew_; clear hg_ hnew_))
  go_ret
  exact ⟨_, rfl, ho6, hb⟩
set_option maxHeartbeats 4000000 in
set_option maxRecDepth 100000 in
theorem to_26 (r : Int) (w : World) (hlo : 12290 ≤ r) (hhi : r ≤ 12290) : Calls Try.prog 25 #[.int .i32 r] w (ToRes w [46]) := by
  have : decide (65 ≤ r) = true := decide_eq_true (by omega)
  have : decide (r ≤ 90) = false := decide_eq_false (by omega)
  have : decide (192 ≤ r) = true := decide_eq_true (by omega)
  have : decide (r ≤ 214) = false := decide_eq_false (by omega)
  have : decide (216 ≤ r) = true := decide_eq_true (by omega)
  have : decide (r ≤ 222) = false := decide_eq_false (by omega)
  have : decide (913 ≤ r) = true := decide_eq_true (by omega)
  have : decide (r ≤ 929) = false := decide_eq_false (by omega)
  have : decide (931 ≤ r) = true := decide_eq_true (by omega)
  have : decide (r ≤ 937) = false := decide_eq_false (by omega)
  have : decide (1040 ≤ r) = true := decide_eq_true (by omega)
  have : decide (r ≤ 1071) = false := decide_eq_false (by omega)
  have : (r == 170) = false := by simp; omega
  have : decide (178 ≤ r) = true := decide_eq_true (by omega)
  have : decide (r ≤ 179) = false := decide_eq_false (by omega)
  have : (r == 185) = false := by simp; omega
  have : (r == 186) = false := by simp; omega
  have : (r == 376) = false := by simp; omega
  have : (r == 469) = false := by simp; omega
  have : (r == 902) = false := by simp; omega
  have : decide (904 ≤ r) = true := decide_eq_true (by omega)
  have : decide (r ≤ 906) = false := decide_eq_false (by omega)
  have : (r == 908) = false := by simp; omega
  have : decide (910 ≤ r) = true := decide_eq_true (by omega)
  have : decide (r ≤ 911) = false := decide_eq_false (by omega)
  have : (r == 1025) = false := by simp; omega
  have : decide (1029 ≤ r) = true := decide_eq_true (by omega)
  have : decide (r ≤ 1030) = false := decide_eq_false (by omega)
  have : (r == 1032) = false := by simp; omega
  have : (r == 7776) = false := by simp; omega
  have : (r == 7778) = false := by simp; omega
  have : (r == 7784) = false := by simp; omega
  have : (r == 7838) = false := by simp; omega
  have : (r == 8486) = false := by simp; omega
  have : (r == 8490) = false := by simp; omega
  have : (r == 8491) = false := by simp; omega
  have : (r == 12290) = true := by simp; omega
  clear hlo hhi
  go_enter Try.func25, Try.ntmps25
  go_wp2_with (first | ((with_reducible refine gate_dst (N := 154) rfl ?_); refine Kd.R_lit (Kd.int .i32) _ 21 ?hg (N := 154) ?hd (xs := ([46] : List Int)) (inner := [.int .i32 46]) (ok := fun _ => True) (okp := fun _ => True) ?hr ?hp (fun _ hk => hk) trivial (Below.refl _ _) (Nat.le_refl _) (by simp) ?_; (case hd => rfl); (case hg => rfl); (case hr => first | (go_simp; done) | (go_simp; rfl)); (case hp => exact (Reps.one (show Kd.M (Kd.int .i32) _ _ _ 46 [.int .i32 46] from rfl) (Reps.none _ _))); intro v204 w5 ho6 hb hg_ hnew_; clear hg_ hnew_))
  go_ret
  exact ⟨_, rfl, ho6, hb⟩
set_option maxHeartbeats 4000000 in
set_option maxRecDepth 100000 in
theorem to_27 (r : Int) (w : World) (hlo : 65294 ≤ r) (hhi : r ≤ 65294) : Calls Try.prog 25 #[.int .i32 r] w (ToRes w [46]) := by
  have : decide (65 ≤ r) = true := decide_eq_true (by omega)
  have : decide (r ≤ 90) = false := decide_eq_false (by omega)
  have : decide (192 ≤ r) = true := decide_eq_true (by omega)
  have : decide (r ≤ 214) = false := decide_eq_false (by omega)
  have : decide (216 ≤ r) = true := decide_eq_true (by omega)
  have : decide (r ≤ 222) = false := decide_eq_false (by omega)
  have : decide (913 ≤ r) = true := decide_eq_true (by omega)
  have : decide (r ≤ 929) = false := decide_eq_false (by omega)
  have : decide (931 ≤ r) = true := decide_eq_true (by omega)
  have : decide (r ≤ 937) = false := decide_eq_false (by omega)
  have : decide (1040 ≤ r) = true := decide_eq_true (by omega)
  have : decide (r ≤ 1071) = false := decide_eq_false (by omega)
  have : (r == 170) = false := by simp; omega
  have : decide (178 ≤ r) = true := decide_eq_true (by omega)
  have : decide (r ≤ 179) = false := decide_eq_false (by omega)
  have : (r == 185) = false := by simp; omega
  have : (r == 186) = false := by simp; omega
  have : (r == 376) = false := by simp; omega
  have : (r == 469) = false := by simp; omega
  have : (r == 902) = false := by simp; omega
  have : decide (904 ≤ r) = true := decide_eq_true (by omega)
  have : decide (r ≤ 906) = false := decide_eq_false (by omega)
  have : (r == 908) = false := by simp; omega
  have : decide (910 ≤ r) = true := decide_eq_true (by omega)
  have : decide (r ≤ 911) = false := decide_eq_false (by omega)
  have : (r == 1025) = false := by simp; omega
  have : decide (1029 ≤ r) = true := decide_eq_true (by omega)
  have : decide (r ≤ 1030) = false := decide_eq_false (by omega)
  have : (r == 1032) = false := by simp; omega
  have : (r == 7776) = false := by simp; omega
  have : (r == 7778) = false := by simp; omega
  have : (r == 7784) = false := by simp; omega
  have : (r == 7838) = false := by simp; omega
  have : (r == 8486) = false := by simp; omega
  have : (r == 8490) = false := by simp; omega
  have : (r == 8491) = false := by simp; omega
  have : (r == 12290) = false := by simp; omega
  have : (r == 65294) = true := by simp; omega
  clear hlo hhi
  go_enter Try.func25, Try.ntmps25
  go_wp2_with (first | ((with_reducible refine gate_dst (N := 154) rfl ?_); refine Kd.R_lit (Kd.int .i32) _ 21 ?hg (N := 154) ?hd (xs := ([46] : List Int)) (inner := [.int .i32 46]) (ok := fun _ => True) (okp := fun _ => True) ?hr ?hp (fun _ hk => hk) trivial (Below.refl _ _) (Nat.le_refl _) (by simp) ?_; (case hd => rfl); (case hg => rfl); (case hr => first | (go_simp; done) | (go_simp; rfl)); (case hp => exact (Reps.one (show Kd.M (Kd.int .i32) _ _ _ 46 [.int .i32 46] from rfl) (Reps.none _ _))); intro v204 w5 ho6 hb hg_ hnew_; clear hg_ hnew_))
  go_ret
  exact ⟨_, rfl, ho6, hb⟩
set_option maxHeartbeats 4000000 in
set_option maxRecDepth 100000 in
theorem to_28 (r : Int) (w : World) (hlo : 65377 ≤ r) (hhi : r ≤ 65377) : Calls Try.prog 25 #[.int .i32 r] w (ToRes w [46]) := by
  have : decide (65 ≤ r) = true := decide_eq_true (by omega)
  have : decide (r ≤ 90) = false := decide_eq_false (by omega)
  have : decide (192 ≤ r) = true := decide_eq_true (by omega)
  have : decide (r ≤ 214) = false := decide_eq_false (by omega)
  have : decide (216 ≤ r) = true := decide_eq_true (by omega)
  have : decide (r ≤ 222) = false := decide_eq_false (by omega)
  have : decide (913 ≤ r) = true := decide_eq_true (by omega)
  have : decide (r ≤ 929) = false := decide_eq_false (by omega)
  have : decide (931 ≤ r) = true := decide_eq_true (by omega)
  have : decide (r ≤ 937) = false := decide_eq_false (by omega)
  have : decide (1040 ≤ r) = true := decide_eq_true (by omega)
  have : decide (r ≤ 1071) = false := decide_eq_false (by omega)
  have : (r == 170) = false := by simp; omega
  have : decide (178 ≤ r) = true := decide_eq_true (by omega)
  have : decide (r ≤ 179) = false := decide_eq_false (by omega)
  have : (r == 185) = false := by simp; omega
  have : (r == 186) = false := by simp; omega
  have : (r == 376) = false := by simp; omega
  have : (r == 469) = false := by simp; omega
  have : (r == 902) = false := by simp; omega
  have : decide (904 ≤ r) = true := decide_eq_true (by omega)
  have : decide (r ≤ 906) = false := decide_eq_false (by omega)
  have : (r == 908) = false := by simp; omega
  have : decide (910 ≤ r) = true := decide_eq_true (by omega)
  have : decide (r ≤ 911) = false := decide_eq_false (by omega)
  have : (r == 1025) = false := by simp; omega
  have : decide (1029 ≤ r) = true := decide_eq_true (by omega)
  have : decide (r ≤ 1030) = false := decide_eq_false (by omega)
  have : (r == 1032) = false := by simp; omega
  have : (r == 7776) = false := by simp; omega
  have : (r == 7778) = false := by simp; omega
  have : (r == 7784) = false := by simp; omega
  have : (r == 7838) = false := by simp; omega
  have : (r == 8486) = false := by simp; omega
  have : (r == 8490) = false := by simp; omega
  have : (r == 8491) = false := by simp; omega
  have : (r == 12290) = false := by simp; omega
  have : (r == 65294) = false := by simp; omega
  have : (r == 65377) = true := by simp; omega
  clear hlo hhi
  go_enter Try.func25, Try.ntmps25
  go_wp2_with (first | ((with_reducible refine gate_dst (N := 154) rfl ?_); refine Kd.R_lit (Kd.int .i32) _ 21 ?hg (N := 154) ?hd (xs := ([46] : List Int)) (inner := [.int .i32 46]) (ok := fun _ => True) (okp := fun _ => True) ?hr ?hp (fun _ hk => hk) trivial (Below.refl _ _) (Nat.le_refl _) (by simp) ?_; (case hd => rfl); (case hg => rfl); (case hr => first | (go_simp; done) | (go_simp; rfl)); (case hp => exact (Reps.one (show Kd.M (Kd.int .i32) _ _ _ 46 [.int .i32 46] from rfl) (Reps.none _ _))); intro v204 w5 ho6 hb hg_ hnew_; clear hg_ hnew_))
  go_ret
  exact ⟨_, rfl, ho6, hb⟩
set_option maxHeartbeats 4000000 in
set_option maxRecDepth 100000 in
theorem to_29 (r : Int) (w : World) (hlo : 64257 ≤ r) (hhi : r ≤ 64257) : Calls Try.prog 25 #[.int .i32 r] w (ToRes w [102, 105]) := by
  have : decide (65 ≤ r) = true := decide_eq_true (by omega)
  have : decide (r ≤ 90) = false := decide_eq_false (by omega)
  have : decide (192 ≤ r) = true := decide_eq_true (by omega)
  have : decide (r ≤ 214) = false := decide_eq_false (by omega)
  have : decide (216 ≤ r) = true := decide_eq_true (by omega)
  have : decide (r ≤ 222) = false := decide_eq_false (by omega)
  have : decide (913 ≤ r) = true := decide_eq_true (by omega)
  have : decide (r ≤ 929) = false := decide_eq_false (by omega)
  have : decide (931 ≤ r) = true := decide_eq_true (by omega)
  have : decide (r ≤ 937) = false := decide_eq_false (by omega)
  have : decide (1040 ≤ r) = true := decide_eq_true (by omega)
  have : decide (r ≤ 1071) = false := decide_eq_false (by omega)
  have : (r == 170) = false := by simp; omega
  have : decide (178 ≤ r) = true := decide_eq_true (by omega)
  have : decide (r ≤ 179) = false := decide_eq_false (by omega)
  have : (r == 185) = false := by simp; omega
  have : (r == 186) = false := by simp; omega
  have : (r == 376) = false := by simp; omega
  have : (r == 469) = false := by simp; omega
  have : (r == 902) = false := by simp; omega
  have : decide (904 ≤ r) = true := decide_eq_true (by omega)
  have : decide (r ≤ 906) = false := decide_eq_false (by omega)
  have : (r == 908) = false := by simp; omega
  have : decide (910 ≤ r) = true := decide_eq_true (by omega)
  have : decide (r ≤ 911) = false := decide_eq_false (by omega)
  have : (r == 1025) = false := by simp; omega
  have : decide (1029 ≤ r) = true := decide_eq_true (by omega)
  have : decide (r ≤ 1030) = false := decide_eq_false (by omega)
  have : (r == 1032) = false := by simp; omega
  have : (r == 7776) = false := by simp; omega
  have : (r == 7778) = false := by simp; omega
  have : (r == 7784) = false := by simp; omega
  have : (r == 7838) = false := by simp; omega
  have : (r == 8486) = false := by simp; omega
  have : (r == 8490) = false := by simp; omega
  have : (r == 8491) = false := by simp; omega
  have : (r == 12290) = false := by simp; omega
  have : (r == 65294) = false := by simp; omega
  have : (r == 65377) = false := by simp; omega
  have : (r == 64257) = true := by simp; omega
  clear hlo hhi
  go_enter Try.func25, Try.ntmps25
  go_wp2_with (first | ((with_reducible refine gate_dst (N := 158) rfl ?_); refine Kd.R_lit (Kd.int .i32) _ 21 ?hg (N := 158) ?hd (xs := ([102, 105] : List Int)) (inner := [.int .i32 102, .int .i32 105]) (ok := fun _ => True) (okp := fun _ => True) ?hr ?hp (fun _ hk => hk) trivial (Below.refl _ _) (Nat.le_refl _) (by simp) ?_; (case hd => rfl); (case hg => rfl); (case hr => first | (go_simp; done) | (go_simp; rfl)); (case hp => exact (Reps.one (show Kd.M (Kd.int .i32) _ _ _ 102 [.int .i32 102] from rfl) (Reps.one (show Kd.M (Kd.int .i32) _ _ _ 105 [.int .i32 105] from rfl) (Reps.none _ _)))); intro v204 w5 ho6 hb hg_ hnew_; clear hg_ hnew_))
  go_ret
  exact ⟨_, rfl, ho6, hb⟩
set_option maxHeartbeats 4000000 in
set_option maxRecDepth 100000 in
theorem to_30 (r : Int) (w : World) (hlo : 65285 ≤ r) (hhi : r ≤ 65285) : Calls Try.prog 25 #[.int .i32 r] w (ToRes w [37]) := by
  have : decide (65 ≤ r) = true := decide_eq_true (by omega)
  have : decide (r ≤ 90) = false := decide_eq_false (by omega)
  have : decide (192 ≤ r) = true := decide_eq_true (by omega)
  have : decide (r ≤ 214) = false := decide_eq_false (by omega)
  have : decide (216 ≤ r) = true := decide_eq_true (by omega)
  have : decide (r ≤ 222) = false := decide_eq_false (by omega)
  have : decide (913 ≤ r) = true := decide_eq_true (by omega)
  have : decide (r ≤ 929) = false := decide_eq_false (by omega)
  have : decide (931 ≤ r) = true := decide_eq_true (by omega)
  have : decide (r ≤ 937) = false := decide_eq_false (by omega)
  have : decide (1040 ≤ r) = true := decide_eq_true (by omega)
  have : decide (r ≤ 1071) = false := decide_eq_false (by omega)
  have : (r == 170) = false := by simp; omega
  have : decide (178 ≤ r) = true := decide_eq_true (by omega)
  have : decide (r ≤ 179) = false := decide_eq_false (by omega)
  have : (r == 185) = false := by simp; omega
  have : (r == 186) = false := by simp; omega
  have : (r == 376) = false := by simp; omega
  have : (r == 469) = false := by simp; omega
  have : (r == 902) = false := by simp; omega
  have : decide (904 ≤ r) = true := decide_eq_true (by omega)
  have : decide (r ≤ 906) = false := decide_eq_false (by omega)
  have : (r == 908) = false := by simp; omega
  have : decide (910 ≤ r) = true := decide_eq_true (by omega)
  have : decide (r ≤ 911) = false := decide_eq_false (by omega)
  have : (r == 1025) = false := by simp; omega
  have : decide (1029 ≤ r) = true := decide_eq_true (by omega)
  have : decide (r ≤ 1030) = false := decide_eq_false (by omega)
  have : (r == 1032) = false := by simp; omega
  have : (r == 7776) = false := by simp; omega
  have : (r == 7778) = false := by simp; omega
  have : (r == 7784) = false := by simp; omega
  have : (r == 7838) = false := by simp; omega
  have : (r == 8486) = false := by simp; omega
  have : (r == 8490) = false := by simp; omega
  have : (r == 8491) = false := by simp; omega
  have : (r == 12290) = false := by simp; omega
  have : (r == 65294) = false := by simp; omega
  have : (r == 65377) = false := by simp; omega
  have : (r == 64257) = false := by simp; omega
  have : (r == 65285) = true := by simp; omega
  clear hlo hhi
  go_enter Try.func25, Try.ntmps25
  go_wp2_with (first | ((with_reducible refine gate_dst (N := 162) rfl ?_); refine Kd.R_lit (Kd.int .i32) _ 21 ?hg (N := 162) ?hd (xs := ([37] : List Int)) (inner := [.int .i32 37]) (ok := fun _ => True) (okp := fun _ => True) ?hr ?hp (fun _ hk => hk) trivial (Below.refl _ _) (Nat.le_refl _) (by simp) ?_; (case hd => rfl); (case hg => rfl); (case hr => first | (go_simp; done) | (go_simp; rfl)); (case hp => exact (Reps.one (show Kd.M (Kd.int .i32) _ _ _ 37 [.int .i32 37] from rfl) (Reps.none _ _))); intro v204 w5 ho6 hb hg_ hnew_; clear hg_ hnew_))
  go_ret
  exact ⟨_, rfl, ho6, hb⟩
set_option maxHeartbeats 4000000 in
set_option maxRecDepth 100000 in
theorem to_31 (r : Int) (w : World) (hlo : 65293 ≤ r) (hhi : r ≤ 65293) : Calls Try.prog 25 #[.int .i32 r] w (ToRes w [45]) := by
  have : decide (65 ≤ r) = true := decide_eq_true (by omega)
  have : decide (r ≤ 90) = false := decide_eq_false (by omega)
  have : decide (192 ≤ r) = true := decide_eq_true (by omega)
  have : decide (r ≤ 214) = false := decide_eq_false (by omega)
  have : decide (216 ≤ r) = true := decide_eq_true (by omega)
  have : decide (r ≤ 222) = false := decide_eq_false (by omega)
  have : decide (913 ≤ r) = true := decide_eq_true (by omega)
  have : decide (r ≤ 929) = false := decide_eq_false (by omega)
  have : decide (931 ≤ r) = true := decide_eq_true (by omega)
  have : decide (r ≤ 937) = false := decide_eq_false (by omega)
  have : decide (1040 ≤ r) = true := decide_eq_true (by omega)
  have : decide (r ≤ 1071) = false := decide_eq_false (by omega)
  have : (r == 170) = false := by simp; omega
  have : decide (178 ≤ r) = true := decide_eq_true (by omega)
  have : decide (r ≤ 179) = false := decide_eq_false (by omega)
  have : (r == 185) = false := by simp; omega
  have : (r == 186) = false := by simp; omega
  have : (r == 376) = false := by simp; omega
  have : (r == 469) = false := by simp; omega
  have : (r == 902) = false := by simp; omega
  have : decide (904 ≤ r) = true := decide_eq_true (by omega)
  have : decide (r ≤ 906) = false := decide_eq_false (by omega)
  have : (r == 908) = false := by simp; omega
  have : decide (910 ≤ r) = true := decide_eq_true (by omega)
  have : decide (r ≤ 911) = false := decide_eq_false (by omega)
  have : (r == 1025) = false := by simp; omega
  have : decide (1029 ≤ r) = true := decide_eq_true (by omega)
  have : decide (r ≤ 1030) = false := decide_eq_false (by omega)
  have : (r == 1032) = false := by simp; omega
  have : (r == 7776) = false := by simp; omega
  have : (r == 7778) = false := by simp; omega
  have : (r == 7784) = false := by simp; omega
  have : (r == 7838) = false := by simp; omega
  have : (r == 8486) = false := by simp; omega
  have : (r == 8490) = false := by simp; omega
  have : (r == 8491) = false := by simp; omega
  have : (r == 12290) = false := by simp; omega
  have : (r == 65294) = false := by simp; omega
  have : (r == 65377) = false := by simp; omega
  have : (r == 64257) = false := by simp; omega
  have : (r == 65285) = false := by simp; omega
  have : (r == 65293) = true := by simp; omega
  clear hlo hhi
  go_enter Try.func25, Try.ntmps25
  go_wp2_with (first | ((with_reducible refine gate_dst (N := 166) rfl ?_); refine Kd.R_lit (Kd.int .i32) _ 21 ?hg (N := 166) ?hd (xs := ([45] : List Int)) (inner := [.int .i32 45]) (ok := fun _ => True) (okp := fun _ => True) ?hr ?hp (fun _ hk => hk) trivial (Below.refl _ _) (Nat.le_refl _) (by simp) ?_; (case hd => rfl); (case hg => rfl); (case hr => first | (go_simp; done) | (go_simp; rfl)); (case hp => exact (Reps.one (show Kd.M (Kd.int .i32) _ _ _ 45 [.int .i32 45] from rfl) (Reps.none _ _))); intro v204 w5 ho6 hb hg_ hnew_; clear hg_ hnew_))
  go_ret
  exact ⟨_, rfl, ho6, hb⟩
set_option maxHeartbeats 4000000 in
set_option maxRecDepth 100000 in
theorem to_32 (r : Int) (w : World) (hlo : 65295 ≤ r) (hhi : r ≤ 65295) : Calls Try.prog 25 #[.int .i32 r] w (ToRes w [47]) := by
  have : decide (65 ≤ r) = true := decide_eq_true (by omega)
  have : decide (r ≤ 90) = false := decide_eq_false (by omega)
  have : decide (192 ≤ r) = true := decide_eq_true (by omega)
  have : decide (r ≤ 214) = false := decide_eq_false (by omega)
  have : decide (216 ≤ r) = true := decide_eq_true (by omega)
  have : decide (r ≤ 222) = false := decide_eq_false (by omega)
  have : decide (913 ≤ r) = true := decide_eq_true (by omega)
  have : decide (r ≤ 929) = false := decide_eq_false (by omega)
  have : decide (931 ≤ r) = true := decide_eq_true (by omega)
  have : decide (r ≤ 937) = false := decide_eq_false (by omega)
  have : decide (1040 ≤ r) = true := decide_eq_true (by omega)
  have : decide (r ≤ 1071) = false := decide_eq_false (by omega)
  have : (r == 170) = false := by simp; omega
  have : decide (178 ≤ r) = true := decide_eq_true (by omega)
  have : decide (r ≤ 179) = false := decide_eq_false (by omega)
  have : (r == 185) = false := by simp; omega
  have : (r == 186) = false := by simp; omega
  have : (r == 376) = false := by simp; omega
  have : (r == 469) = false := by simp; omega
  have : (r == 902) = false := by simp; omega
  have : decide (904 ≤ r) = true := decide_eq_true (by omega)
  have : decide (r ≤ 906) = false := decide_eq_false (by omega)
  have : (r == 908) = false := by simp; omega
  have : decide (910 ≤ r) = true := decide_eq_true (by omega)
  have : decide (r ≤ 911) = false := decide_eq_false (by omega)
  have : (r == 1025) = false := by simp; omega
  have : decide (1029 ≤ r) = true := decide_eq_true (by omega)
  have : decide (r ≤ 1030) = false := decide_eq_false (by omega)
  have : (r == 1032) = false := by simp; omega
  have : (r == 7776) = false := by simp; omega
  have : (r == 7778) = false := by simp; omega
  have : (r == 7784) = false := by simp; omega
  have : (r == 7838) = false := by simp; omega
  have : (r == 8486) = false := by simp; omega
  have : (r == 8490) = false := by simp; omega
  have : (r == 8491) = false := by simp; omega
  have : (r == 12290) = false := by simp; omega
  have : (r == 65294) = false := by simp; omega
  have : (r == 65377) = false := by simp; omega
  have : (r == 64257) = false := by simp; omega
  have : (r == 65285) = false := by simp; omega
  have : (r == 65293) = false := by simp; omega
  have : (r == 65295) = true := by simp; omega
  clear hlo hhi
  go_enter Try.func25, Try.ntmps25
  go_wp2_with (first | ((with_reducible refine gate_dst (N := 170) rfl ?_); refine Kd.R_lit (Kd.int .i32) _ 21 ?hg (N := 170) ?hd (xs := ([47] : List Int)) (inner := [.int .i32 47]) (ok := fun _ => True) (okp := fun _ => True) ?hr ?hp (fun _ hk => hk) trivial (Below.refl _ _) (Nat.le_refl _) (by simp) ?_; (case hd => rfl); (case hg => rfl); (case hr => first | (go_simp; done) | (go_simp; rfl)); (case hp => exact (Reps.one (show Kd.M (Kd.int .i32) _ _ _ 47 [.int .i32 47] from rfl) (Reps.none _ _))); intro v204 w5 ho6 hb hg_ hnew_; clear hg_ hnew_))
  go_ret
  exact ⟨_, rfl, ho6, hb⟩
set_option maxHeartbeats 4000000 in
set_option maxRecDepth 100000 in
theorem to_33 (r : Int) (w : World) (hlo : 65296 ≤ r) (hhi : r ≤ 65305) : Calls Try.prog 25 #[.int .i32 r] w (ToRes w [wrap32 (r - 65248)]) := by
  have : decide (65 ≤ r) = true := decide_eq_true (by omega)
  have : decide (r ≤ 90) = false := decide_eq_false (by omega)
  have : decide (192 ≤ r) = true := decide_eq_true (by omega)
  have : decide (r ≤ 214) = false := decide_eq_false (by omega)
  have : decide (216 ≤ r) = true := decide_eq_true (by omega)
  have : decide (r ≤ 222) = false := decide_eq_false (by omega)
  have : decide (913 ≤ r) = true := decide_eq_true (by omega)
  have : decide (r ≤ 929) = false := decide_eq_false (by omega)
  have : decide (931 ≤ r) = true := decide_eq_true (by omega)
  have : decide (r ≤ 937) = false := decide_eq_false (by omega)
  have : decide (1040 ≤ r) = true := decide_eq_true (by omega)
  have : decide (r ≤ 1071) = false := decide_eq_false (by omega)
  have : (r == 170) = false := by simp; omega
  have : decide (178 ≤ r) = true := decide_eq_true (by omega)
  have : decide (r ≤ 179) = false := decide_eq_false (by omega)
  have : (r == 185) = false := by simp; omega
  have : (r == 186) = false := by simp; omega
  have : (r == 376) = false := by simp; omega
  have : (r == 469) = false := by simp; omega
  have : (r == 902) = false := by simp; omega
  have : decide (904 ≤ r) = true := decide_eq_true (by omega)
  have : decide (r ≤ 906) = false := decide_eq_false (by omega)
  have : (r == 908) = false := by simp; omega
  have : decide (910 ≤ r) = true := decide_eq_true (by omega)
  have : decide (r ≤ 911) = false := decide_eq_false (by omega)
  have : (r == 1025) = false := by simp; omega
  have : decide (1029 ≤ r) = true := decide_eq_true (by omega)
  have : decide (r ≤ 1030) = false := decide_eq_false (by omega)
  have : (r == 1032) = false := by simp; omega
  have : (r == 7776) = false := by simp; omega
  have : (r == 7778) = false := by simp; omega
  have : (r == 7784) = false := by simp; omega
  have : (r == 7838) = false := by simp; omega
  have : (r == 8486) = false := by simp; omega
  have : (r == 8490) = false := by simp; omega
  have : (r == 8491) = false := by simp; omega
  have : (r == 12290) = false := by simp; omega
  have : (r == 65294) = false := by simp; omega
  have : (r == 65377) = false := by simp; omega
  have : (r == 64257) = false := by simp; omega
  have : (r == 65285) = false := by simp; omega
  have : (r == 65293) = false := by simp; omega
  have : (r == 65295) = false := by simp; omega
  have : decide (65296 ≤ r) = true := decide_eq_true (by omega)
  have : decide (r ≤ 65305) = true := decide_eq_true (by omega)
  clear hlo hhi
  go_enter Try.func25, Try.ntmps25
  go_wp2_with (first | ((with_reducible refine gate_dst (N := 186) rfl ?_); refine Kd.R_lit (Kd.int .i32) _ 21 ?hg (N := 186) ?hd (xs := ([wrap32 (r - 65248)] : List Int)) (inner := [.int .i32 (wrap32 (r - 65248))]) (ok := fun _ => True) (okp := fun _ => True) ?hr ?hp (fun _ hk => hk) trivial (Below.refl _ _) (Nat.le_refl _) (by simp) ?_; (case hd => rfl); (case hg => rfl); (case hr => first | (go_simp; done) | (go_simp; rfl)); (case hp => exact (Reps.one (show Kd.M (Kd.int .i32) _ _ _ (wrap32 (r - 65248)) [.int .i32 (wrap32 (r - 65248))] from rfl) (Reps.none _ _))); intro v204 w5 ho6 hb hg_ hnew_; clear hg_ hnew_))
  go_ret
  exact ⟨_, rfl, ho6, hb⟩
set_option maxHeartbeats 4000000 in
set_option maxRecDepth 100000 in
theorem to_34 (r : Int) (w : World) (hlo : 65345 ≤ r) (hhi : r ≤ 65370) : Calls Try.prog 25 #[.int .i32 r] w (ToRes w [wrap32 (r - 65248)]) := by
  have : decide (65 ≤ r) = true := decide_eq_true (by omega)
  have : decide (r ≤ 90) = false := decide_eq_false (by omega)
  have : decide (192 ≤ r) = true := decide_eq_true (by omega)
  have : decide (r ≤ 214) = false := decide_eq_false (by omega)
  have : decide (216 ≤ r) = true := decide_eq_true (by omega)
  have : decide (r ≤ 222) = false := decide_eq_false (by omega)
  have : decide (913 ≤ r) = true := decide_eq_true (by omega)
  have : decide (r ≤ 929) = false := decide_eq_false (by omega)
  have : decide (931 ≤ r) = true := decide_eq_true (by omega)
  have : decide (r ≤ 937) = false := decide_eq_false (by omega)
  have : decide (1040 ≤ r) = true := decide_eq_true (by omega)
  have : decide (r ≤ 1071) = false := decide_eq_false (by omega)
  have : (r == 170) = false := by simp; omega
  have : decide (178 ≤ r) = true := decide_eq_true (by omega)
  have : decide (r ≤ 179) = false := decide_eq_false (by omega)
  have : (r == 185) = false := by simp; omega
  have : (r == 186) = false := by simp; omega
  have : (r == 376) = false := by simp; omega
  have : (r == 469) = false := by simp; omega
  have : (r == 902) = false := by simp; omega
  have : decide (904 ≤ r) = true := decide_eq_true (by omega)
  have : decide (r ≤ 906) = false := decide_eq_false (by omega)
  have : (r == 908) = false := by simp; omega
  have : decide (910 ≤ r) = true := decide_eq_true (by omega)
  have : decide (r ≤ 911) = false := decide_eq_false (by omega)
  have : (r == 1025) = false := by simp; omega
  have : decide (1029 ≤ r) = true := decide_eq_true (by omega)
  have : decide (r ≤ 1030) = false := decide_eq_false (by omega)
  have : (r == 1032) = false := by simp; omega
  have : (r == 7776) = false := by simp; omega
  have : (r == 7778) = false := by simp; omega
  have : (r == 7784) = false := by simp; omega
  have : (r == 7838) = false := by simp; omega
  have : (r == 8486) = false := by simp; omega
  have : (r == 8490) = false := by simp; omega
  have : (r == 8491) = false := by simp; omega
  have : (r == 12290) = false := by simp; omega
  have : (r == 65294) = false := by simp; omega
  have : (r == 65377) = false := by simp; omega
  have : (r == 64257) = false := by simp; omega
  have : (r == 65285) = false := by simp; omega
  have : (r == 65293) = false := by simp; omega
  have : (r == 65295) = false := by simp; omega
  have : decide (65296 ≤ r) = true := decide_eq_true (by omega)
  have : decide (r ≤ 65305) = false := decide_eq_false (by omega)
  have : decide (65345 ≤ r) = true := decide_eq_true (by omega)
  have : decide (r ≤ 65370) = true := decide_eq_true (by omega)
  clear hlo hhi
  go_enter Try.func25, Try.ntmps25
  go_wp2_with (first | ((with_reducible refine gate_dst (N := 186) rfl ?_); refine Kd.R_lit (Kd.int .i32) _ 21 ?hg (N := 186) ?hd (xs := ([wrap32 (r - 65248)] : List Int)) (inner := [.int .i32 (wrap32 (r - 65248))]) (ok := fun _ => True) (okp := fun _ => True) ?hr ?hp (fun _ hk => hk) trivial (Below.refl _ _) (Nat.le_refl _) (by simp) ?_; (case hd => rfl); (case hg => rfl); (case hr => first | (go_simp; done) | (go_simp; rfl)); (case hp => exact (Reps.one (show Kd.M (Kd.int .i32) _ _ _ (wrap32 (r - 65248)) [.int .i32 (wrap32 (r - 65248))] from rfl) (Reps.none _ _))); intro v204 w5 ho6 hb hg_ hnew_; clear hg_ hnew_))
  go_ret
  exact ⟨_, rfl, ho6, hb⟩
set_option maxHeartbeats 4000000 in
set_option maxRecDepth 100000 in
theorem to_35 (r : Int) (w : World) (hlo : 65313 ≤ r) (hhi : r ≤ 65338) : Calls Try.prog 25 #[.int .i32 r] w (ToRes w [wrap32 (r - 65216)]) := by
  have : decide (65 ≤ r) = true := decide_eq_true (by omega)
  have : decide (r ≤ 90) = false := decide_eq_false (by omega)
  have : decide (192 ≤ r) = true := decide_eq_true (by omega)
  have : decide (r ≤ 214) = false := decide_eq_false (by omega)
  have : decide (216 ≤ r) = true := decide_eq_true (by omega)
  have : decide (r ≤ 222) = false := decide_eq_false (by omega)
  have : decide (913 ≤ r) = true := decide_eq_true (by omega)
  have : decide (r ≤ 929) = false := decide_eq_false (by omega)
  have : decide (931 ≤ r) = true := decide_eq_true (by omega)
  have : decide (r ≤ 937) = false := decide_eq_false (by omega)
  have : decide (1040 ≤ r) = true := decide_eq_true (by omega)
  have : decide (r ≤ 1071) = false := decide_eq_false (by omega)
  have : (r == 170) = false := by simp; omega
  have : decide (178 ≤ r) = true := decide_eq_true (by omega)
  have : decide (r ≤ 179) = false := decide_eq_false (by omega)
  have : (r == 185) = false := by simp; omega
  have : (r == 186) = false := by simp; omega
  have : (r == 376) = false := by simp; omega
  have : (r == 469) = false := by simp; omega
  have : (r == 902) = false := by simp; omega
  have : decide (904 ≤ r) = true := decide_eq_true (by omega)
  have : decide (r ≤ 906) = false := decide_eq_false (by omega)
  have : (r == 908) = false := by simp; omega
  have : decide (910 ≤ r) = true := decide_eq_true (by omega)
  have : decide (r ≤ 911) = false := decide_eq_false (by omega)
  have : (r == 1025) = false := by simp; omega
  have : decide (1029 ≤ r) = true := decide_eq_true (by omega)
  have : decide (r ≤ 1030) = false := decide_eq_false (by omega)
  have : (r == 1032) = false := by simp; omega
  have : (r == 7776) = false := by simp; omega
  have : (r == 7778) = false := by simp; omega
  have : (r == 7784) = false := by simp; omega
  have : (r == 7838) = false := by simp; omega
  have : (r == 8486) = false := by simp; omega
  have : (r == 8490) = false := by simp; omega
  have : (r == 8491) = false := by simp; omega
  have : (r == 12290) = false := by simp; omega
  have : (r == 65294) = false := by simp; omega
  have : (r == 65377) = false := by simp; omega
  have : (r == 64257) = false := by simp; omega
  have : (r == 65285) = false := by simp; omega
  have : (r == 65293) = false := by simp; omega
  have : (r == 65295) = false := by simp; omega
  have : decide (65296 ≤ r) = true := decide_eq_true (by omega)
  have : decide (r ≤ 65305) = false := decide_eq_false (by omega)
  have : decide (65345 ≤ r) = false := decide_eq_false (by omega)
  have : decide (65313 ≤ r) = true := decide_eq_true (by omega)
  have : decide (r ≤ 65338) = true := decide_eq_true (by omega)
  clear hlo hhi
  go_enter Try.func25, Try.ntmps25
  go_wp2_with (first | ((with_reducible refine gate_dst (N := 196) rfl ?_); refine Kd.R_lit (Kd.int .i32) _ 21 ?hg (N := 196) ?hd (xs := ([wrap32 (r - 65216)] : List Int)) (inner := [.int .i32 (wrap32 (r - 65216))]) (ok := fun _ => True) (okp := fun _ => True) ?hr ?hp (fun _ hk => hk) trivial (Below.refl _ _) (Nat.le_refl _) (by simp) ?_; (case hd => rfl); (case hg => rfl); (case hr => first | (go_simp; done) | (go_simp; rfl)); (case hp => exact (Reps.one (show Kd.M (Kd.int .i32) _ _ _ (wrap32 (r - 65216)) [.int .i32 (wrap32 (r - 65216))] from rfl) (Reps.none _ _))); intro v204 w5 ho6 hb hg_ hnew_; clear hg_ hnew_))
  go_ret
  exact ⟨_, rfl, ho6, hb⟩
set_option maxHeartbeats 4000000 in
set_option maxRecDepth 100000 in
theorem to_36 (r : Int) (w : World) (hlo : 66560 ≤ r) (hhi : r ≤ 66599) : Calls Try.prog 25 #[.int .i32 r] w (ToRes w [wrap32 (r + 40)]) := by
  have : decide (65 ≤ r) = true := decide_eq_true (by omega)
  have : decide (r ≤ 90) = false := decide_eq_false (by omega)
  have : decide (192 ≤ r) = true := decide_eq_true (by omega)
  have : decide (r ≤ 214) = false := decide_eq_false (by omega)
  have : decide (216 ≤ r) = true := decide_eq_true (by omega)
  have : decide (r ≤ 222) = false := decide_eq_false (by omega)
  have : decide (913 ≤ r) = true := decide_eq_true (by omega)
  have : decide (r ≤ 929) = false := decide_eq_false (by omega)
  have : decide (931 ≤ r) = true := decide_eq_true (by omega)
  have : decide (r ≤ 937) = false := decide_eq_false (by omega)
  have : decide (1040 ≤ r) = true := decide_eq_true (by omega)
  have : decide (r ≤ 1071) = false := decide_eq_false (by omega)
  have : (r == 170) = false := by simp; omega
  have : decide (178 ≤ r) = true := decide_eq_true (by omega)
  have : decide (r ≤ 179) = false := decide_eq_false (by omega)
  have : (r == 185) = false := by simp; omega
  have : (r == 186) = false := by simp; omega
  have : (r == 376) = false := by simp; omega
  have : (r == 469) = false := by simp; omega
  have : (r == 902) = false := by simp; omega
  have : decide (904 ≤ r) = true := decide_eq_true (by omega)
  have : decide (r ≤ 906) = false := decide_eq_false (by omega)
  have : (r == 908) = false := by simp; omega
  have : decide (910 ≤ r) = true := decide_eq_true (by omega)
  have : decide (r ≤ 911) = false := decide_eq_false (by omega)
  have : (r == 1025) = false := by simp; omega
  have : decide (1029 ≤ r) = true := decide_eq_true (by omega)
  have : decide (r ≤ 1030) = false := decide_eq_false (by omega)
  have : (r == 1032) = false := by simp; omega
  have : (r == 7776) = false := by simp; omega
  have : (r == 7778) = false := by simp; omega
  have : (r == 7784) = false := by simp; omega
  have : (r == 7838) = false := by simp; omega
  have : (r == 8486) = false := by simp; omega
  have : (r == 8490) = false := by simp; omega
  have : (r == 8491) = false := by simp; omega
  have : (r == 12290) = false := by simp; omega
  have : (r == 65294) = false := by simp; omega
  have : (r == 65377) = false := by simp; omega
  have : (r == 64257) = false := by simp; omega
  have : (r == 65285) = false := by simp; omega
  have : (r == 65293) = false := by simp; omega
  have : (r == 65295) = false := by simp; omega
  have : decide (65296 ≤ r) = true := decide_eq_true (by omega)
  have : decide (r ≤ 65305) = false := decide_eq_false (by omega)
  have : decide (65345 ≤ r) = true := decide_eq_true (by omega)
  have : decide (r ≤ 65370) = false := decide_eq_false (by omega)
  have : decide (65313 ≤ r) = true := decide_eq_true (by omega)
  have : decide (r ≤ 65338) = false := decide_eq_false (by omega)
  have : decide (66560 ≤ r) = true := decide_eq_true (by omega)
  have : decide (r ≤ 66599) = true := decide_eq_true (by omega)
  clear hlo hhi
  go_enter Try.func25, Try.ntmps25
  go_wp2_with (first | ((with_reducible refine gate_dst (N := 206) rfl ?_); refine Kd.R_lit (Kd.int .i32) _ 21 ?hg (N := 206) ?hd (xs := ([wrap32 (r + 40)] : List Int)) (inner := [.int .i32 (wrap32 (r + 40))]) (ok := fun _ => True) (okp := fun _ => True) ?hr ?hp (fun _ hk => hk) trivial (Below.refl _ _) (Nat.le_refl _) (by simp) ?_; (case hd => rfl); (case hg => rfl); (case hr => first | (go_simp; done) | (go_simp; rfl)); (case hp => exact (Reps.one (show Kd.M (Kd.int .i32) _ _ _ (wrap32 (r + 40)) [.int .i32 (wrap32 (r + 40))] from rfl) (Reps.none _ _))); intro v204 w5 ho6 hb hg_ hnew_; clear hg_ hnew_))
  go_ret
  exact ⟨_, rfl, ho6, hb⟩
end Go.Proofs.Ytkdhmdmmdbmeaaa.Pr
