import Derived.Test.YtkdhmdmmdbmeaaaPr0
namespace Go.Proofs.Ytkdhmdmmdbmeaaa.Pr
open Go.RowKit Go.Proofs.YtkdhmdmmdbmeaaaW.PrintWords Go.Proofs.YtkdhmdmmdbmeaaaW.PrintLast Go.Proofs.YtkdhmdmmdbmeaaaW.PrintMore
set_option linter.unusedVariables false
set_option linter.unusedSimpArgs false

def ToRes (w : World) (r : List Int) (e : Ending) (w' : World) : Prop := ∃ v0_ : Value, e = .returned (v0_) ∧ Kd.R (Kd.int .i32) 21 w' w.heap.size (fun _ => True) v0_ r ∧ Below w.heap.size w w'
set_option maxHeartbeats 4000000 in
set_option maxRecDepth 100000 in
theorem to_0 (r : Int) (w : World) (hlo : 65 ≤ r) (hhi : r ≤ 90) : Calls Try.prog 25 #[.int .i32 r] w (ToRes w [wrap32 (r + 32)]) := by
  have : decide (65 ≤ r) = true := decide_eq_true (by omega)
  have : decide (r ≤ 90) = true := decide_eq_true (by omega)
  clear hlo hhi
  go_enter Try.func25, Try.ntmps25
  go_wp2_with (first | ((with_reducible refine gate_dst (N := 42) rfl ?_); refine Kd.R_lit (Kd.int .i32) _ 21 ?hg (N := 42) ?hd (xs := ([wrap32 (r + 32)] : List Int)) (inner := [.int .i32 (wrap32 (r + 32))]) (ok := fun _ => True) (okp := fun _ => True) ?hr ?hp (fun _ hk => hk) trivial (Below.refl _ _) (Nat.le_refl _) (by simp) ?_; (case hd => rfl); (case hg => rfl); (case hr => first | (go_simp; done) | (go_simp; rfl)); (case hp => exact (Reps.one (show Kd.M (Kd.int .i32) _ _ _ (wrap32 (r + 32)) [.int .i32 (wrap32 (r + 32))] from rfl) (Reps.none _ _))); intro v204 w5 ho6 hb hg_ hnew_; clear hg_ hnew_))
  go_ret
  exact ⟨_, rfl, ho6, hb⟩
set_option maxHeartbeats 4000000 in
set_option maxRecDepth 100000 in
theorem to_1 (r : Int) (w : World) (hlo : 192 ≤ r) (hhi : r ≤ 214) : Calls Try.prog 25 #[.int .i32 r] w (ToRes w [wrap32 (r + 32)]) := by
  have : decide (65 ≤ r) = true := decide_eq_true (by omega)
  have : decide (r ≤ 90) = false := decide_eq_false (by omega)
  have : decide (192 ≤ r) = true := decide_eq_true (by omega)
  have : decide (r ≤ 214) = true := decide_eq_true (by omega)
  clear hlo hhi
  go_enter Try.func25, Try.ntmps25
  go_wp2_with (first | ((with_reducible refine gate_dst (N := 42) rfl ?_); refine Kd.R_lit (Kd.int .i32) _ 21 ?hg (N := 42) ?hd (xs := ([wrap32 (r + 32)] : List Int)) (inner := [.int .i32 (wrap32 (r + 32))]) (ok := fun _ => True) (okp := fun _ => True) ?hr ?hp (fun _ hk => hk) trivial (Below.refl _ _) (Nat.le_refl _) (by simp) ?_; (case hd => rfl); (case hg => rfl); (case hr => first | (go_simp; done) | (go_simp; rfl)); (case hp => exact (Reps.one (show Kd.M (Kd.int .i32) _ _ _ (wrap32 (r + 32)) [.int .i32 (wrap32 (r + 32))] from rfl) (Reps.none _ _))); intro v204 w5 ho6 hb hg_ hnew_; clear hg_ hnew_))
  go_ret
  exact ⟨_, rfl, ho6, hb⟩
set_option maxHeartbeats 4000000 in
set_option maxRecDepth 100000 in
theorem to_2 (r : Int) (w : World) (hlo : 216 ≤ r) (hhi : r ≤ 222) : Calls Try.prog 25 #[.int .i32 r] w (ToRes w [wrap32 (r + 32)]) := by
  have : decide (65 ≤ r) = true := decide_eq_true (by omega)
  have : decide (r ≤ 90) = false := decide_eq_false (by omega)
  have : decide (192 ≤ r) = true := decide_eq_true (by omega)
  have : decide (r ≤ 214) = false := decide_eq_false (by omega)
  have : decide (216 ≤ r) = true := decide_eq_true (by omega)
  have : decide (r ≤ 222) = true := decide_eq_true (by omega)
  clear hlo hhi
  go_enter Try.func25, Try.ntmps25
  go_wp2_with (first | ((with_reducible refine gate_dst (N := 42) rfl ?_); refine Kd.R_lit (Kd.int .i32) _ 21 ?hg (N := 42) ?hd (xs := ([wrap32 (r + 32)] : List Int)) (inner := [.int .i32 (wrap32 (r + 32))]) (ok := fun _ => True) (okp := fun _ => True) ?hr ?hp (fun _ hk => hk) trivial (Below.refl _ _) (Nat.le_refl _) (by simp) ?_; (case hd => rfl); (case hg => rfl); (case hr => first | (go_simp; done) | (go_simp; rfl)); (case hp => exact (Reps.one (show Kd.M (Kd.int .i32) _ _ _ (wrap32 (r + 32)) [.int .i32 (wrap32 (r + 32))] from rfl) (Reps.none _ _))); intro v204 w5 ho6 hb hg_ hnew_; clear hg_ hnew_))
  go_ret
  exact ⟨_, rfl, ho6, hb⟩
set_option maxHeartbeats 4000000 in
set_option maxRecDepth 100000 in
theorem to_3 (r : Int) (w : World) (hlo : 913 ≤ r) (hhi : r ≤ 929) : Calls Try.prog 25 #[.int .i32 r] w (ToRes w [wrap32 (r + 32)]) := by
  have : decide (65 ≤ r) = true := decide_eq_true (by omega)
  have : decide (r ≤ 90) = false := decide_eq_false (by omega)
  have : decide (192 ≤ r) = true := decide_eq_true (by omega)
  have : decide (r ≤ 214) = false := decide_eq_false (by omega)
  have : decide (216 ≤ r) = true := decide_eq_true (by omega)
  have : decide (r ≤ 222) = false := decide_eq_false (by omega)
  have : decide (913 ≤ r) = true := decide_eq_true (by omega)
  have : decide (r ≤ 929) = true := decide_eq_true (by omega)
  clear hlo hhi
  go_enter Try.func25, Try.ntmps25
  go_wp2_with (first | ((with_reducible refine gate_dst (N := 42) rfl ?_); refine Kd.R_lit (Kd.int .i32) _ 21 ?hg (N := 42) ?hd (xs := ([wrap32 (r + 32)] : List Int)) (inner := [.int .i32 (wrap32 (r + 32))]) (ok := fun _ => True) (okp := fun _ => True) ?hr ?hp (fun _ hk => hk) trivial (Below.refl _ _) (Nat.le_refl _) (by simp) ?_; (case hd => rfl); (case hg => rfl); (case hr => first | (go_simp; done) | (go_simp; rfl)); (case hp => exact (Reps.one (show Kd.M (Kd.int .i32) _ _ _ (wrap32 (r + 32)) [.int .i32 (wrap32 (r + 32))] from rfl) (Reps.none _ _))); intro v204 w5 ho6 hb hg_ hnew_; clear hg_ hnew_))
  go_ret
  exact ⟨_, rfl, ho6, hb⟩
set_option maxHeartbeats 4000000 in
set_option maxRecDepth 100000 in
theorem to_4 (r : Int) (w : World) (hlo : 931 ≤ r) (hhi : r ≤ 937) : Calls Try.prog 25 #[.int .i32 r] w (ToRes w [wrap32 (r + 32)]) := by
  have : decide (65 ≤ r) = true := decide_eq_true (by omega)
  have : decide (r ≤ 90) = false := decide_eq_false (by omega)
  have : decide (192 ≤ r) = true := decide_eq_true (by omega)
  have : decide (r ≤ 214) = false := decide_eq_false (by omega)
  have : decide (216 ≤ r) = true := decide_eq_true (by omega)
  have : decide (r ≤ 222) = false := decide_eq_false (by omega)
  have : decide (913 ≤ r) = true := decide_eq_true (by omega)
  have : decide (r ≤ 929) = false := decide_eq_false (by omega)
  have : decide (931 ≤ r) = true := decide_eq_true (by omega)
  have : decide (r ≤ 937) = true := decide_eq_true (by omega)
  clear hlo hhi
  go_enter Try.func25, Try.ntmps25
  go_wp2_with (first | ((with_reducible refine gate_dst (N := 42) rfl ?_); refine Kd.R_lit (Kd.int .i32) _ 21 ?hg (N := 42) ?hd (xs := ([wrap32 (r + 32)] : List Int)) (inner := [.int .i32 (wrap32 (r + 32))]) (ok := fun _ => True) (okp := fun _ => True) ?hr ?hp (fun _ hk => hk) trivial (Below.refl _ _) (Nat.le_refl _) (by simp) ?_; (case hd => rfl); (case hg => rfl); (case hr => first | (go_simp; done) | (go_simp; rfl)); (case hp => exact (Reps.one (show Kd.M (Kd.int .i32) _ _ _ (wrap32 (r + 32)) [.int .i32 (wrap32 (r + 32))] from rfl) (Reps.none _ _))); intro v204 w5 ho6 hb hg_ hnew_; clear hg_ hnew_))
  go_ret
  exact ⟨_, rfl, ho6, hb⟩
set_option maxHeartbeats 4000000 in
set_option maxRecDepth 100000 in
theorem to_5 (r : Int) (w : World) (hlo : 1040 ≤ r) (hhi : r ≤ 1071) : Calls Try.prog 25 #[.int .i32 r] w (ToRes w [wrap32 (r + 32)]) := by
  have : decide (65 ≤ r) = true := decide_eq_true (by omega)
  have : decide (r ≤ 90) = false := decide_eq_false (by omega)
  have : decide (192 ≤ r) = true := decide_eq_true (by omega)
  have : decide (r ≤ 214) = false := decide_eq_false (by omega)
  have : decide (216 ≤ r) = true := decide_eq_true (by omega)
  have : decide (r ≤ 222) = false := decide_eq_false (by omega)
  have : decide (913 ≤ r) = true := decide_eq_true (by omega)
  have : decide (r ≤ 929) = false := decide_eq_false (by omega)
  have : decide (931 ≤ r) = true := decide_eq_true (by omega)
  have : decide (r ≤ 937) = false := decide_eq_false (by omega)
  have : decide (1040 ≤ r) = true := decide_eq_true (by omega)
  have : decide (r ≤ 1071) = true := decide_eq_true (by omega)
  clear hlo hhi
  go_enter Try.func25, Try.ntmps25
  go_wp2_with (first | ((with_reducible refine gate_dst (N := 42) rfl ?_); refine Kd.R_lit (Kd.int .i32) _ 21 ?hg (N := 42) ?hd (xs := ([wrap32 (r + 32)] : List Int)) (inner := [.int .i32 (wrap32 (r + 32))]) (ok := fun _ => True) (okp := fun _ => True) ?hr ?hp (fun _ hk => hk) trivial (Below.refl _ _) (Nat.le_refl _) (by simp) ?_; (case hd => rfl); (case hg => rfl); (case hr => first | (go_simp; done) | (go_simp; rfl)); (case hp => exact (Reps.one (show Kd.M (Kd.int .i32) _ _ _ (wrap32 (r + 32)) [.int .i32 (wrap32 (r + 32))] from rfl) (Reps.none _ _))); intro v204 w5 ho6 hb hg_ hnew_; clear hg_ hnew_))
  go_ret
  exact ⟨_, rfl, ho6, hb⟩
set_option maxHeartbeats 4000000 in
set_option maxRecDepth 100000 in
theorem to_6 (r : Int) (w : World) (hlo : 170 ≤ r) (hhi : r ≤ 170) : Calls Try.prog 25 #[.int .i32 r] w (ToRes w [97]) := by
  have : decide (65 ≤ r) = true := decide_eq_true (by omega)
  have : decide (r ≤ 90) = false := decide_eq_false (by omega)
  have : decide (192 ≤ r) = false := decide_eq_false (by omega)
  have : decide (216 ≤ r) = false := decide_eq_false (by omega)
  have : decide (913 ≤ r) = false := decide_eq_false (by omega)
  have : decide (931 ≤ r) = false := decide_eq_false (by omega)
  have : decide (1040 ≤ r) = false := decide_eq_false (by omega)
  have : (r == 170) = true := by simp; omega
  clear hlo hhi
  go_enter Try.func25, Try.ntmps25
  go_wp2_with (first | ((with_reducible refine gate_dst (N := 46) rfl ?_); refine Kd.R_lit (Kd.int .i32) _ 21 ?hg (N := 46) ?hd (xs := ([97] : List Int)) (inner := [.int .i32 97]) (ok := fun _ => True) (okp := fun _ => True) ?hr ?hp (fun _ hk => hk) trivial (Below.refl _ _) (Nat.le_refl _) (by simp) ?_; (case hd => rfl); (case hg => rfl); (case hr => first | (go_simp; done) | (go_simp; rfl)); (case hp => exact (Reps.one (show Kd.M (Kd.int .i32) _ _ _ 97 [.int .i32 97] from rfl) (Reps.none _ _))); intro v204 w5 ho6 hb hg_ hnew_; clear hg_ hnew_))
  go_ret
  exact ⟨_, rfl, ho6, hb⟩
set_option maxHeartbeats 4000000 in
set_option maxRecDepth 100000 in
theorem to_7 (r : Int) (w : World) (hlo : 178 ≤ r) (hhi : r ≤ 179) : Calls Try.prog 25 #[.int .i32 r] w (ToRes w [wrap32 (r - 128)]) := by
  have : decide (65 ≤ r) = true := decide_eq_true (by omega)
  have : decide (r ≤ 90) = false := decide_eq_false (by omega)
  have : decide (192 ≤ r) = false := decide_eq_false (by omega)
  have : decide (216 ≤ r) = false := decide_eq_false (by omega)
  have : decide (913 ≤ r) = false := decide_eq_false (by omega)
  have : decide (931 ≤ r) = false := decide_eq_false (by omega)
  have : decide (1040 ≤ r) = false := decide_eq_false (by omega)
  have : (r == 170) = false := by simp; omega
  have : decide (178 ≤ r) = true := decide_eq_true (by omega)
  have : decide (r ≤ 179) = true := decide_eq_true (by omega)
  clear hlo hhi
  go_enter Try.func25, Try.ntmps25
  go_wp2_with (first | ((with_reducible refine gate_dst (N := 56) rfl ?_); refine Kd.R_lit (Kd.int .i32) _ 21 ?hg (N := 56) ?hd (xs := ([wrap32 (r - 128)] : List Int)) (inner := [.int .i32 (wrap32 (r - 128))]) (ok := fun _ => True) (okp := fun _ => True) ?hr ?hp (fun _ hk => hk) trivial (Below.refl _ _) (Nat.le_refl _) (by simp) ?_; (case hd => rfl); (case hg => rfl); (case hr => first | (go_simp; done) | (go_simp; rfl)); (case hp => exact (Reps.one (show Kd.M (Kd.int .i32) _ _ _ (wrap32 (r - 128)) [.int .i32 (wrap32 (r - 128))] from rfl) (Reps.none _ _))); intro v204 w5 ho6 hb hg_ hnew_; clear hg_ hnew_))
  go_ret
  exact ⟨_, rfl, ho6, hb⟩
set_option maxHeartbeats 4000000 in
set_option maxRecDepth 100000 in
theorem to_8 (r : Int) (w : World) (hlo : 185 ≤ r) (hhi : r ≤ 185) : Calls Try.prog 25 #[.int .i32 r] w (ToRes w [49]) := by
  have : decide (65 ≤ r) = true := decide_eq_true (by omega)
  have : decide (r ≤ 90) = false := decide_eq_false (by omega)
  have : decide (192 ≤ r) = false := decide_eq_false (by omega)
  have : decide (216 ≤ r) = false := decide_eq_false (by omega)
  have : decide (913 ≤ r) = false := decide_eq_false (by omega)
  have : decide (931 ≤ r) = false := decide_eq_false (by omega)
  have : decide (1040 ≤ r) = false := decide_eq_false (by omega)
  have : (r == 170) = false := by simp; omega
  have : decide (178 ≤ r) = true := decide_eq_true (by omega)
  have : decide (r ≤ 179) = false := decide_eq_false (by omega)
  have : (r == 185) = true := by simp; omega
  clear hlo hhi
  go_enter Try.func25, Try.ntmps25
  go_wp2_with (first | ((with_reducible refine gate_dst (N := 60) rfl ?_); refine Kd.R_lit (Kd.int .i32) _ 21 ?hg (N := 60) ?hd (xs := ([49] : List Int)) (inner := [.int .i32 49]) (ok := fun _ => True) (okp := fun _ => True) ?hr ?hp (fun _ hk => hk) trivial (Below.refl _ _) (Nat.le_refl _) (by simp) ?_; (case hd => rfl); (case hg => rfl); (case hr => first | (go_simp; done) | (go_simp; rfl)); (case hp => exact (Reps.one (show Kd.M (Kd.int .i32) _ _ _ 49 [.int .i32 49] from rfl) (Reps.none _ _))); intro v204 w5 ho6 hb hg_ hnew_; clear hg_ hnew_))
  go_ret
  exact ⟨_, rfl, ho6, hb⟩
set_option maxHeartbeats 4000000 in
set_option maxRecDepth 100000 in
theorem to_9 (r : Int) (w : World) (hlo : 186 ≤ r) (hhi : r ≤ 186) : Calls Try.prog 25 #[.int .i32 r] w (ToRes w [111]) := by
  have : decide (65 ≤ r) = true := decide_eq_true (by omega)
  have : decide (r ≤ 90) = false := decide_eq_false (by omega)
  have : decide (192 ≤ r) = false := decide_eq_false (by omega)
  have : decide (216 ≤ r) = false := decide_eq_false (by omega)
  have : decide (913 ≤ r) = false := decide_eq_false (by omega)
  have : decide (931 ≤ r) = false := decide_eq_false (by omega)
  have : decide (1040 ≤ r) = false := decide_eq_false (by omega)
  have : (r == 170) = false := by simp; omega
  have : decide (178 ≤ r) = true := decide_eq_true (by omega)
  have : decide (r ≤ 179) = false := decide_eq_false (by omega)
  have : (r == 185) = false := by simp; omega
  have : (r == 186) = true := by simp; omega
  clear hlo hhi
  go_enter Try.func25, Try.ntmps25
  go_wp2_with (first | ((with_reducible refine gate_dst (N := 64) rfl ?_); refine Kd.R_lit (Kd.int .i32) _ 21 ?hg (N := 64) ?hd (xs := ([111] : List Int)) (inner := [.int .i32 111]) (ok := fun _ => True) (okp := fun _ => True) ?hr ?hp (fun _ hk => hk) trivial (Below.refl _ _) (Nat.le_refl _) (by simp) ?_; (case hd => rfl); (case hg => rfl); (case hr => first | (go_simp; done) | (go_simp; rfl)); (case hp => exact (Reps.one (show Kd.M (Kd.int .i32) _ _ _ 111 [.int .i32 111] from rfl) (Reps.none _ _))); intro v204 w5 ho6 hb hg_ hnew_; clear hg_ hnew_))
  go_ret
  exact ⟨_, rfl, ho6, hb⟩
set_option maxHeartbeats 4000000 in
set_option maxRecDepth 100000 in
theorem to_10 (r : Int) (w : World) (hlo : 376 ≤ r) (hhi : r ≤ 376) : Calls Try.prog 25 #[.int .i32 r] w (ToRes w [255]) := by
  have : decide (65 ≤ r) = true := decide_eq_true (by omega)
  have : decide (r ≤ 90) = false := decide_eq_false (by omega)
  have : decide (192 ≤ r) = true := decide_eq_true (by omega)
  have : decide (r ≤ 214) = false := decide_eq_false (by omega)
  have : decide (216 ≤ r) = true := decide_eq_true (by omega)
  have : decide (r ≤ 222) = false := decide_eq_false (by omega)
  have : decide (913 ≤ r) = false := decide_eq_false (by omega)
  have : decide (931 ≤ r) = false := decide_eq_false (by omega)
  have : decide (1040 ≤ r) = false := decide_eq_false (by omega)
  have : (r == 170) = false := by simp; omega
  have : decide (178 ≤ r) = true := decide_eq_true (by omega)
  have : decide (r ≤ 179) = false := decide_eq_false (by omega)
  have : (r == 185) = false := by simp; omega
  have : (r == 186) = false := by simp; omega
  have : (r == 376) = true := by simp; omega
  clear hlo hhi
  go_enter Try.func25, Try.ntmps25
  go_wp2_with (first | ((with_reducible refine gate_dst (N := 68) rfl ?_); refine Kd.R_lit (Kd.int .i32) _ 21 ?hg (N := 68) ?hd (xs := ([255] : List Int)) (inner := [.int .i32 255]) (ok := fun _ => True) (okp := fun _ => True) ?hr ?hp (fun _ hk => hk) trivial (Below.refl _ _) (Nat.le_refl _) (by simp) ?_; (case hd => rfl); (case hg => rfl); (case hr => first | (go_simp; done) | (go_simp; rfl)); (case hp => exact (Reps.one (show Kd.M (Kd.int .i32) _ _ _ 255 [.int .i32 255] from rfl) (Reps.none _ _))); intro v204 w5 ho6 hb hg_ hnew_; clear hg_ hnew_))
  go_ret
  exact ⟨_, rfl, ho6, hb⟩
set_option maxHeartbeats 4000000 in
set_option maxRecDepth 100000 in
theorem to_11 (r : Int) (w : World) (hlo : 469 ≤ r) (hhi : r ≤ 469) : Calls Try.prog 25 #[.int .i32 r] w (ToRes w [470]) := by
  have : decide (65 ≤ r) = true := decide_eq_true (by omega)
  have : decide (r ≤ 90) = false := decide_eq_false (by omega)
  have : decide (192 ≤ r) = true := decide_eq_true (by omega)
  have : decide (r ≤ 214) = false := decide_eq_false (by omega)
  have : decide (216 ≤ r) = true := decide_eq_true (by omega)
  have : decide (r ≤ 222) = false := decide_eq_false (by omega)
  have : decide (913 ≤ r) = false := decide_eq_false (by omega)
  have : decide (931 ≤ r) = false := decide_eq_false (by omega)
  have : decide (1040 ≤ r) = false := decide_eq_false (by omega)
  have : (r == 170) = false := by simp; omega
  have : decide (178 ≤ r) = true := decide_eq_true (by omega)
  have : decide (r ≤ 179) = false := decide_eq_false (by omega)
  have : (r == 185) = false := by simp; omega
  have : (r == 186) = false := by simp; omega
  have : (r == 376) = false := by simp; omega
  have : (r == 469) = true := by simp; omega
  clear hlo hhi
  go_enter Try.func25, Try.ntmps25
  go_wp2_with (first | ((with_reducible refine gate_dst (N := 72) rfl ?_); refine Kd.R_lit (Kd.int .i32) _ 21 ?hg (N := 72) ?hd (xs := ([470] : List Int)) (inner := [.int .i32 470]) (ok := fun _ => True) (okp := fun _ => True) ?hr ?hp (fun _ hk => hk) trivial (Below.refl _ _) (Nat.le_refl _) (by simp) ?_; (case hd => rfl); (case hg => rfl); (case hr => first | (go_simp; done) | (go_simp; rfl)); (case hp => exact (Reps.one (show Kd.M (Kd.int .i32) _ _ _ 470 [.int .i32 470] from rfl) (Reps.none _ _))); intro v204 w5 ho6 hb hg_ hnew_; clear hg_ hnew_))
  go_ret
  exact ⟨_, rfl, ho6, hb⟩
set_option maxHeartbeats 4000000 in
set_option maxRecDepth 100000 in
theorem to_12 (r : Int) (w : World) (hlo : 902 ≤ r) (hhi : r ≤ 902) : Calls Try.prog 25 #[.int .i32 r] w (ToRes w [940]) := by
  have : decide (65 ≤ r) = true := decide_eq_true (by omega)
  have : decide (r ≤ 90) = false := decide_eq_false (by omega)
  have : decide (192 ≤ r) = true := decide_eq_true (by omega)
  have : decide (r ≤ 214) = false := decide_eq_false (by omega)
  have : decide (216 ≤ r) = true := decide_eq_true (by omega)
  have : decide (r ≤ 222) = false := decide_eq_false (by omega)
  have : decide (913 ≤ r) = false := decide_eq_false (by omega)
  have : decide (931 ≤ r) = false := decide_eq_false (by omega)
  have : decide (1040 ≤ r) = false := decide_eq_false (by omega)
  have : (r == 170) = false := by simp; omega
  have : decide (178 ≤ r) = true := decide_eq_true (by omega)
  have : decide (r ≤ 179) = false := decide_eq_false (by omega)
  have : (r == 185) = false := by simp; omega
  have : (r == 186) = false := by simp; omega
  have : (r == 376) = false := by simp; omega
  have : (r == 469) = false := by simp; omega
  have : (r == 902) = true := by simp; omega
  clear hlo hhi
  go_enter Try.func25, Try.ntmps25
  go_wp2_with (first | ((with_reducible refine gate_dst (N := 76) rfl ?_); refine Kd.R_lit (Kd.int .i32) _ 21 ?hg (N := 76) ?hd (xs := ([940] : List Int)) (inner := [.int .i32 940]) (ok := fun _ => True) (okp := fun _ => True) ?hr ?hp (fun _ hk => hk) trivial (Below.refl _ _) (Nat.le_refl _) (by simp) ?_; (case hd => rfl); (case hg => rfl); (case hr => first | (go_simp; done) | (go_simp; rfl)); (case hp => exact (Reps.one (show Kd.M (Kd.int .i32) _ _ _ 940 [.int .i32 940] from rfl) (Reps.none _ _))); intro v204 w5 ho6 hb hg_ hnew_; clear hg_ hnew_))
  go_ret
  exact ⟨_, rfl, ho6, hb⟩
set_option maxHeartbeats 4000000 in
set_option maxRecDepth 100000 in
theorem to_13 (r : Int) (w : World) (hlo : 904 ≤ r) (hhi : r ≤ 906) : Calls Try.prog 25 #[.int .i32 r] w (ToRes w [wrap32 (r + 37)]) := by
  have : decide (65 ≤ r) = true := decide_eq_true (by omega)
  have : decide (r ≤ 90) = false := decide_eq_false (by omega)
  have : decide (192 ≤ r) = true := decide_eq_true (by omega)
  have : decide (r ≤ 214) = false := decide_eq_false (by omega)
  have : decide (216 ≤ r) = true := decide_eq_true (by omega)
  have : decide (r ≤ 222) = false := decide_eq_false (by omega)
  have : decide (913 ≤ r) = false := decide_eq_false (by omega)
  have : decide (931 ≤ r) = false := decide_eq_false (by omega)
  have : decide (1040 ≤ r) = false := decide_eq_false (by omega)
  have : (r == 170) = false := by simp; omega
  have : decide (178 ≤ r) = true := decide_eq_true (by omega)
  have : decide (r ≤ 179) = false := decide_eq_false (by omega)
  have : (r == 185) = false := by simp; omega
  have : (r == 186) = false := by simp; omega
  have : (r == 376) = false := by simp; omega
  have : (r == 469) = false := by simp; omega
  have : (r == 902) = false := by simp; omega
  have : decide (904 ≤ r) = true := decide_eq_true (by omega)
  have : decide (r ≤ 906) = true := decide_eq_true (by omega)
  clear hlo hhi
  go_enter Try.func25, Try.ntmps25
  go_wp2_with (first | ((with_reducible refine gate_dst (N := 86) rfl ?_); refine Kd.R_lit (Kd.int .i32) _ 21 ?hg (N := 86) ?hd (xs := ([wrap32 (r + 37)] : List Int)) (inner := [.int .i32 (wrap32 (r + 37))]) (ok := fun _ => True) (okp := fun _ => True) ?hr ?hp (fun _ hk => hk) trivial (Below.refl _ _) (Nat.le_refl _) (by simp) ?_; (case hd => rfl); (case hg => rfl); (case hr => first | (go_simp; done) | (go_simp; rfl)); (case hp => exact (Reps.one (show Kd.M (Kd.int .i32) _ _ _ (wrap32 (r + 37)) [.int .i32 (wrap32 (r + 37))] from rfl) (Reps.none _ _))); intro v204 w5 ho6 hb hg_ hnew_; clear hg_ hnew_))
  go_ret
  exact ⟨_, rfl, ho6, hb⟩
set_option maxHeartbeats 4000000 in
set_option maxRecDepth 100000 in
theorem to_14 (r : Int) (w : World) (hlo : 908 ≤ r) (hhi : r ≤ 908) : Calls Try.prog 25 #[.int .i32 r] w (ToRes w [972]) := by
  have : decide (65 ≤ r) = true := decide_eq_true (by omega)
  have : decide (r ≤ 90) = false := decide_eq_false (by omega)
  have : decide (192 ≤ r) = true := decide_eq_true (by omega)
  have : decide (r ≤ 214) = false := decide_eq_false (by omega)
  have : decide (216 ≤ r) = true := decide_eq_true (by omega)
  have : decide (r ≤ 222) = false := decide_eq_false (by omega)
  have : decide (913 ≤ r) = false := decide_eq_false (by omega)
  have : decide (931 ≤ r) = false := decide_eq_false (by omega)
  have : decide (1040 ≤ r) = false := decide_eq_false (by omega)
  have : (r == 170) = false := by simp; omega
  have : decide (178 ≤ r) = true := decide_eq_true (by omega)
  have : decide (r ≤ 179) = false := decide_eq_false (by omega)
  have : (r == 185) = false := by simp; omega
  have : (r == 186) = false := by simp; omega
  have : (r == 376) = false := by simp; omega
  have : (r == 469) = false := by simp; omega
  have : (r == 902) = false := by simp; omega
  have : decide (904 ≤ r) = true := decide_eq_true (by omega)
  have : decide (r ≤ 906) = false := decide_eq_false (by omega)
  have : (r == 908) = true := by simp; omega
  clear hlo hhi
  go_enter Try.func25, Try.ntmps25
  go_wp2_with (first | ((with_reducible refine gate_dst (N := 90) rfl ?_); refine Kd.R_lit (Kd.int .i32) _ 21 ?hg (N := 90) ?hd (xs := ([972] : List Int)) (inner := [.int .i32 972]) (ok := fun _ => True) (okp := fun _ => True) ?hr ?hp (fun _ hk => hk) trivial (Below.refl _ _) (Nat.le_refl _) (by simp) ?_; (case hd => rfl); (case hg => rfl); (case hr => first | (go_simp; done) | (go_simp; rfl)); (case hp => exact (Reps.one (show Kd.M (Kd.int .i32) _ _ _ 972 [.int .i32 972] from rfl) (Reps.none _ _))); intro v204 w5 ho6 hb hg_ hnew_; clear hg_ hnew_))
  go_ret
  exact ⟨_, rfl, ho6, hb⟩
set_option maxHeartbeats 4000000 in
set_option maxRecDepth 100000 in
theorem to_15 (r : Int) (w : World) (hlo : 910 ≤ r) (hhi : r ≤ 911) : Calls Try.prog 25 #[.int .i32 r] w (ToRes w [wrap32 (r + 63)]) := by
  have : decide (65 ≤ r) = true := decide_eq_true (by omega)
  have : decide (r ≤ 90) = false := decide_eq_false (by omega)
  have : decide (192 ≤ r) = true := decide_eq_true (by omega)
  have : decide (r ≤ 214) = false := decide_eq_false (by omega)
  have : decide (216 ≤ r) = true := decide_eq_true (by omega)
  have : decide (r ≤ 222) = false := decide_eq_false (by omega)
  have : decide (913 ≤ r) = false := decide_eq_false (by omega)
  have : decide (931 ≤ r) = false := decide_eq_false (by omega)
  have : decide (1040 ≤ r) = false := decide_eq_false (by omega)
  have : (r == 170) = false := by simp; omega
  have : decide (178 ≤ r) = true := decide_eq_true (by omega)
  have : decide (r ≤ 179) = false := decide_eq_false (by omega)
  have : (r == 185) = false := by simp; omega
  have : (r == 186) = false := by simp; omega
  have : (r == 376) = false := by simp; omega
  have : (r == 469) = false := by simp; omega
  have : (r == 902) = false := by simp; omega
  have : decide (904 ≤ r) = true := decide_eq_true (by omega)
  have : decide (r ≤ 906) = false := decide_eq_false (by omega)
  have : (r == 908) = false := by simp; omega
  have : decide (910 ≤ r) = true := decide_eq_true (by omega)
  have : decide (r ≤ 911) = true := decide_eq_true (by omega)
  clear hlo hhi
  go_enter Try.func25, Try.ntmps25
  go_wp2_with (first | ((with_reducible refine gate_dst (N := 100) rfl ?_); refine Kd.R_lit (Kd.int .i32) _ 21 ?hg (N := 100) ?hd (xs := ([wrap32 (r + 63)] : List Int)) (inner := [.int .i32 (wrap32 (r + 63))]) (ok := fun _ => True) (okp := fun _ => True) ?hr ?hp (fun _ hk => hk) trivial (Below.refl _ _) (Nat.le_refl _) (by simp) ?_; (case hd => rfl); (case hg => rfl); (case hr => first | (go_simp; done) | (go_simp; rfl)); (case hp => exact (Reps.one (show Kd.M (Kd.int .i32) _ _ _ (wrap32 (r + 63)) [.int .i32 (wrap32 (r + 63))] from rfl) (Reps.none _ _))); intro v204 w5 ho6 hb hg_ hnew_; clear hg_ hnew_))
  go_ret
  exact ⟨_, rfl, ho6, hb⟩
set_option maxHeartbeats 4000000 in
set_option maxRecDepth 100000 in
theorem to_16 (r : Int) (w : World) (hlo : 1025 ≤ r) (hhi : r ≤ 1025) : Calls Try.prog 25 #[.int .i32 r] w (ToRes w [1105]) := by
  have : decide (65 ≤ r) = true := decide_eq_true (by omega)
  have : decide (r ≤ 90) = false := decide_eq_false (by omega)
  have : decide (192 ≤ r) = true := decide_eq_true (by omega)
  have : decide (r ≤ 214) = false := decide_eq_false (by omega)
  have : decide (216 ≤ r) = true := decide_eq_true (by omega)
  have : decide (r ≤ 222) = false := decide_eq_false (by omega)
  have : decide (913 ≤ r) = true := decide_eq_true (by omega)
  have : decide (r ≤ 929) = false := decide_eq_false (by omega)
  have : decide (931 ≤ r) = true := decide_eq_true (by omega)
  have : decide (r ≤ 937) = false := decide_eq_false (by omega)
  have : decide (1040 ≤ r) = false := decide_eq_false (by omega)
  have : (r == 170) = false := by simp; omega
  have : decide (178 ≤ r) = true := decide_eq_true (by omega)
  have : decide (r ≤ 179) = false := decide_eq_false (by omega)
  have : (r == 185) = false := by simp; omega
  have : (r == 186) = false := by simp; omega
  have : (r == 376) = false := by simp; omega
  have : (r == 469) = false := by simp; omega
  have : (r == 902) = false := by simp; omega
  have : decide (904 ≤ r) = true := decide_eq_true (by omega)
  have : decide (r ≤ 906) = false := decide_eq_false (by omega)
  have : (r == 908) = false := by simp; omega
  have : decide (910 ≤ r) = true := decide_eq_true (by omega)
  have : decide (r ≤ 911) = false := decide_eq_false (by omega)
  have : (r == 1025) = true := by simp; omega
  clear hlo hhi
  go_enter Try.func25, Try.ntmps25
  go_wp2_with (first | ((with_reducible refine gate_dst (N := 104) rfl ?_); refine Kd.R_lit (Kd.int .i32) _ 21 ?hg (N := 104) ?hd (xs := ([1105] : List Int)) (inner := [.int .i32 1105]) (ok := fun _ => True) (okp := fun _ => True) ?hr ?hp (fun _ hk => hk) trivial (Below.refl _ _) (Nat.le_refl _) (by simp) ?_; (case hd => rfl); (case hg => rfl); (case hr => first | (go_simp; done) | (go_simp; rfl)); (case hp => exact (Reps.one (show Kd.M (Kd.int .i32) _ _ _ 1105 [.int .i32 1105] from rfl) (Reps.none _ _))); intro v204 w5 ho6 hb hg_ hnew_; clear hg_ hnew_))
  go_ret
  exact ⟨_, rfl, ho6, hb⟩
set_option maxHeartbeats 4000000 in
set_option maxRecDepth 100000 in
theorem to_17 (r : Int) (w : World) (hlo : 1029 ≤ r) (hhi : r ≤ 1030) : Calls Try.prog 25 #[.int .i32 r] w (ToRes w [wrap32 (r + 80)]) := by
  have : decide (65 ≤ r) = true := decide_eq_true (by omega)
  have : decide (r ≤ 90) = false := decide_eq_false (by omega)
  have : decide (192 ≤ r) = true := decide_eq_true (by omega)
  have : decide (r ≤ 214) = false := decide_eq_false (by omega)
  have : decide (216 ≤ r) = true := decide_eq_true (by omega)
  have : decide (r ≤ 222) = false := decide_eq_false (by omega)
  have : decide (913 ≤ r) = true := decide_eq_true (by omega)
  have : decide (r ≤ 929) = false := decide_eq_false (by omega)
  have : decide (931 ≤ r) = true := decide_eq_true (by omega)
  have : decide (r ≤ 937) = false := decide_eq_false (by omega)
  have : decide (1040 ≤ r) = false := decide_eq_false (by omega)
  have : (r == 170) = false := by simp; omega
  have : decide (178 ≤ r) = true := decide_eq_true (by omega)
  have : decide (r ≤ 179) = false := decide_eq_false (by omega)
  have : (r == 185) = false := by simp; omega
  have : (r == 186) = false := by simp; omega
  have : (r == 376) = false := by simp; omega
  have : (r == 469) = false := by simp; omega
  have : (r == 902) = false := by simp; omega
  have : decide (904 ≤ r) = true := decide_eq_true (by omega)
  have : decide (r ≤ 906) = false := decide_eq_false (by omega)
  have : (r == 908) = false := by simp; omega
  have : decide (910 ≤ r) = true := decide_eq_true (by omega)
  have : decide (r ≤ 911) = false := decide_eq_false (by omega)
  have : (r == 1025) = false := by simp; omega
  have : decide (1029 ≤ r) = true := decide_eq_true (by omega)
  have : decide (r ≤ 1030) = true := decide_eq_true (by omega)
  clear hlo hhi
  go_enter Try.func25, Try.ntmps25
  go_wp2_with (first | ((with_reducible refine gate_dst (N := 114) rfl ?_); refine Kd.R_lit (Kd.int .i32) _ 21 ?hg (N := 114) ?hd (xs := ([wrap32 (r + 80)] : List Int)) (inner := [.int .i32 (wrap32 (r + 80))]) (ok := fun _ => True) (okp := fun _ => True) ?hr ?hp (fun _ hk => hk) trivial (Below.refl _ _) (Nat.le_refl _) (by simp) ?_; (case hd => rfl); (case hg => rfl); (case hr => first | (go_simp; done) | (go_simp; rfl)); (case hp => exact (Reps.one (show Kd.M (Kd.int .i32) _ _ _ (wrap32 (r + 80)) [.int .i32 (wrap32 (r + 80))] from rfl) (Reps.none _ _))); intro v204 w5 ho6 hb hg_ hnew_; clear hg_ hnew_))
  go_ret
  exact ⟨_, rfl, ho6, hb⟩
set_option maxHeartbeats 4000000 in
set_option maxRecDepth 100000 in
theorem to_18 (r : Int) (w : World) (hlo : 1032 ≤ r) (hhi : r ≤ 1032) : Calls Try.prog 25 #[.int .i32 r] w (ToRes w [1112]) := by
  have : decide (65 ≤ r) = true := decide_eq_true (by omega)
  have : decide (r ≤ 90) = false := decide_eq_false (by omega)
  have : decide (192 ≤ r) = true := decide_eq_true (by omega)
  have : decide (r ≤ 214) = false := decide_eq_false (by omega)
  have : decide (216 ≤ r) = true := decide_eq_true (by omega)
  have : decide (r ≤ 222) = false := decide_eq_false (by omega)
  have : decide (913 ≤ r) = true := decide_eq_true (by omega)
  have : decide (r ≤ 929) = false := decide_eq_false (by omega)
  have : decide (931 ≤ r) = true := decide_eq_true (by omega)
  have : decide (r ≤ 937) = false := decide_eq_false (by omega)
  have : decide (1040 ≤ r) = false := decide_eq_false (by omega)
  have : (r == 170) = false := by simp; omega
  have : decide (178 ≤ r) = true := decide_eq_true (by omega)
  have : decide (r ≤ 179) = false := decide_eq_false (by omega)
  have : (r == 185) = false := by simp; omega
  have : (r == 186) = false := by simp; omega
  have : (r == 376) = false := by simp; omega
  have : (r == 469) = false := by simp; omega
  have : (r == 902) = false := by simp; omega
  have : decide (904 ≤ r) = true := decide_eq_true (by omega)
  have : decide (r ≤ 906) = false := decide_eq_false (by omega)
  have : (r == 908) = false := by simp; omega
  have : decide (910 ≤ r) = true := decide_eq_true (by omega)
  have : decide (r ≤ 911) = false := decide_eq_false (by omega)
  have : (r == 1025) = false := by simp; omega
  have : decide (1029 ≤ r) = true := decide_eq_true (by omega)
  have : decide (r ≤ 1030) = false := decide_eq_false (by omega)
  have : (r == 1032) = true := by simp; omega
  clear hlo hhi
  go_enter Try.func25, Try.ntmps25
  go_wp2_with (first | ((with_reducible refine gate_dst (N := 118) rfl ?_); refine Kd.R_lit (Kd.int .i32) _ 21 ?hg (N := 118) ?hd (xs := ([1112] : List Int)) (inner := [.int .i32 1112]) (ok := fun _ => True) (okp := fun _ => True) ?hr ?hp (fun _ hk => hk) trivial (Below.refl _ _) (Nat.le_refl _) (by simp) ?_; (case hd => rfl); (case hg => rfl); (case hr => first | (go_simp; done) | (go_simp; rfl)); (case hp => exact (Reps.one (show Kd.M (Kd.int .i32) _ _ _ 1112 [.int .i32 1112] from rfl) (Reps.none _ _))); intro v204 w5 ho6 hb hg_ hnew_; clear hg_ hnew_))
  go_ret
  exact ⟨_, rfl, ho6, hb⟩
end Go.Proofs.Ytkdhmdmmdbmeaaa.Pr
