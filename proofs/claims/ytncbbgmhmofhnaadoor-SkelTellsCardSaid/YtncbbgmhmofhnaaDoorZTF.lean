import Derived.Test.YtncbbgmhmofhnaaDoorZTB
import Derived.Test.YtncbbgmhmofhnaaDoorZTC
import Derived.Test.YtncbbgmhmofhnaaDoorZTD
import Derived.Test.YtncbbgmhmofhnaaDoorZTE
import Derived.Lib.ConvBytes
import Derived.IntWalk
import Derived.Lib.Hide
section
namespace Go.Proofs.YtncbbgmhmofhnaaDoor.Pr
open Go.RowKit Go.Proofs.YtncbbgmhmofhnaaDoorW.PrintWords Go.Proofs.YtncbbgmhmofhnaaDoorW.PrintLast Go.Proofs.YtncbbgmhmofhnaaDoorW.PrintMore
attribute [local go_sem] max2_int min2_int max_two min_two max_three min_three max_four min_four Instr.field asAgg   -- for this text's walks alone
set_option linter.unusedVariables false
set_option linter.unusedSimpArgs false

mutual
def portcullislaw08_SkelTells.j0 : Nat → ByteArray → ByteArray → Int → Bool → Option (Bool)
 | 0, _, _, _, _ => none
 | k + 1, x0, x1, x2, x25 => if x25 = true then ((portcullislaw08_works.f k).bind fun t515 => (some t515)) else ((portcullisref08_Skeleton.f k x0).bind fun t516 => ((portcullisref08_Skeleton.f k x1).bind fun t517 => ((skel_Scripts.f x0).bind fun t518 => ((portcullisref08_Scripts.f k x0).bind fun t521 => ((skel_Skeleton.f k x0).bind fun t524 => (if t524.toList = t516.toList then ((skel_Alike.f k x0 x1).bind fun t525 => (if (t525 != (t516.toList == t517.toList)) = true then (portcullislaw08_SkelTells.j1 k x1 x2 t518 t521 true) else (if (t518.length : Int) = (t521.length : Int) then ((skel_Level.f x0).bind fun t526 => ((portcullisref08_Level.f k x0).bind fun t527 => (portcullislaw08_SkelTells.j1 k x1 x2 t518 t521 (t526 != t527)))) else (portcullislaw08_SkelTells.j1 k x1 x2 t518 t521 true)))) else (portcullislaw08_SkelTells.j1 k x1 x2 t518 t521 true)))))))
def portcullislaw08_SkelTells.j1 : Nat → ByteArray → Int → List Int → List Int → Bool → Option (Bool)
 | 0, _, _, _, _, _ => none
 | k + 1, x1, x2, x9, x10, x61 => if x61 = true then (some false) else (portcullislaw08_SkelTells.l0 k x1 x2 x9 x10 0)
def portcullislaw08_SkelTells.l0 : Nat → ByteArray → Int → List Int → List Int → Int → Option (Bool)
 | 0, _, _, _, _, _ => none
 | k + 1, x1, x2, x9, x10, x11 => if x11 < (x9.length : Int) then (if 0 ≤ x11 then (if x11 < (x10.length : Int) then (if (rd x9 x11) = (rd x10 x11) then (portcullislaw08_SkelTells.l0 k x1 x2 x9 x10 (wrap64 (x11 + 1))) else (some false)) else (none)) else (none)) else ((portcullisref08_Names.f).bind fun t530 => (if (wrap64 (x2)) < (t530.length : Int) then (if 0 ≤ x2 then (if x2 < (t530.length : Int) then (portcullislaw08_SkelTells.j3 k x1 x2 t530 (rdOf ByteArray.empty t530 x2)) else (none)) else (none)) else (portcullislaw08_SkelTells.j3 k x1 x2 t530 (⟨#[]⟩ : ByteArray))))
def portcullislaw08_SkelTells.j3 : Nat → ByteArray → Int → List ByteArray → ByteArray → Option (Bool)
 | 0, _, _, _, _ => none
 | k + 1, x1, x2, x12, x13 => (skel_Of.f x1).bind fun bt534 => (portcullislaw08_SkelTells.l1 k x1 x2 x12 x13 bt534.1 bt534.2 (-1) 0)
def portcullislaw08_SkelTells.l1 : Nat → ByteArray → Int → List ByteArray → ByteArray → Int → Int → Int → Int → Option (Bool)
 | 0, _, _, _, _, _, _, _, _ => none
 | k + 1, x1, x2, x12, x13, x14, x15, x16, x17 => if x17 < (x12.length : Int) then (if 0 ≤ x17 then (if (rdOf ByteArray.empty x12 x17).toList = x1.toList then (portcullislaw08_SkelTells.l1 k x1 x2 x12 x13 x14 x15 x17 (wrap64 (x17 + 1))) else (portcullislaw08_SkelTells.l1 k x1 x2 x12 x13 x14 x15 x16 (wrap64 (x17 + 1)))) else (none)) else ((skel_Name.f x2).bind fun t537 => (if t537.toList = x13.toList then (if ((x15 == 0) == (decide (x16 ≥ 0))) = true then (if x16 < 0 then (if x14 = 0 then (if x15 = 5 then ((portcullislaw08_works.f k).bind fun t538 => (some t538)) else (if x16 ≥ 0 then (if (wrap64 (x14)) = x16 then ((portcullislaw08_works.f k).bind fun t539 => (some t539)) else (some false)) else (some false))) else (if x16 ≥ 0 then (if (wrap64 (x14)) = x16 then ((portcullislaw08_works.f k).bind fun t540 => (some t540)) else (some false)) else (some false))) else (if x16 ≥ 0 then (if (wrap64 (x14)) = x16 then ((portcullislaw08_works.f k).bind fun t541 => (some t541)) else (some false)) else (some false))) else (some false)) else (some false)))
end
def portcullislaw08_SkelTells.f (k : Nat) (a0 : ByteArray) (a1 : ByteArray) (a2 : Int) : Option (Bool) := if (a0.size : Int) > 600 then (portcullislaw08_SkelTells.j0 k a0 a1 a2 true) else (portcullislaw08_SkelTells.j0 k a0 a1 a2 (decide ((a1.size : Int) > 600)))
set_option maxHeartbeats 8000000 in
set_option maxRecDepth 100000 in
theorem portcullislaw08_SkelTells.calls (k : Nat) (a0 : ByteArray) (a1 : ByteArray) (a2 : Int) (r : Bool) (w : World) (h : portcullislaw08_SkelTells.f k a0 a1 a2 = some r) (hG : WG w) :
  Calls Tryd.prog 6 #[.string a0, .string a1, .int .u8 a2] w fun e w' => e = .returned (.bool r) ∧ Below w.heap.size w w' := by
 have HG := Aside0.mk hG
 clear hG
 have HB := Aside0.mk (Below.refl w.heap.size w)
 have H : (if (a0.size : Int) > 600 then (portcullislaw08_SkelTells.j0 k a0 a1 a2 true) else (portcullislaw08_SkelTells.j0 k a0 a1 a2 (decide ((a1.size : Int) > 600)))) = some r := h
 clear h
 have HC4 := Aside0.mk H
 clear H
 go_enter Tryd.func6, Tryd.ntmps6
 go_upto_region 1 with (fail)
 repeat (go_quiet (fail); go_upto_region 1 with (fail))
 go_cut [25] (fun v25 wc => ∃ (kq : Nat) (x25_3 : Bool), v25 = .bool x25_3 ∧ Aside0 (portcullislaw08_SkelTells.j0 kq a0 a1 a2 x25_3 = some r) ∧ Aside0 (kq ≤ k) ∧ Aside0 (Below w.heap.size w wc))
 case first =>
  have H := HC4.out
  clear HC4
  by_cases c5 : (a0.size : Int) > 600
  ·rw [if_pos c5] at H
   have c5b0 : decide (600 < (a0.size : Int)) = true := decide_eq_true c5
   have c5b1 : decide (600 < a0.size) = true := decide_eq_true (by omega)
   clear c5
   (first | rw [c5b0] | (simp only [i64_w, i32_w]; rw [c5b0]) | skip)
   have H' := Aside0.mk H
   clear H
   go_wp2
   repeat (go_quiet (fail); try go_wp2)
   go_meet
   case rel => exact ⟨_, (true), (by first | rfl | (simp; done) | (simp [*]; done)), H', ⟨by first | omega | exact Nat.le_refl _⟩, ⟨by repeat (first | (with_reducible first | exact HB.out | apply below_alloc | apply pw_below_drewN | apply below_drew1) | exact HB.out)⟩⟩
  ·rw [if_neg c5] at H
   have c5b0 : decide (600 < (a0.size : Int)) = false := decide_eq_false c5
   have c5b1 : decide (600 < a0.size) = false := decide_eq_false (by omega)
   clear c5
   (first | rw [c5b0] | (simp only [i64_w, i32_w]; rw [c5b0]) | skip)
   have H' := Aside0.mk H
   clear H
   go_wp2
   repeat (go_quiet (fail); try go_wp2)
   go_meet
   case rel => exact ⟨_, (decide ((a1.size : Int) > 600)), (by first | rfl | (simp; done) | (simp [*]; done)), H', ⟨by first | omega | exact Nat.le_refl _⟩, ⟨by repeat (first | (with_reducible first | exact HB.out | apply below_alloc | apply pw_below_drewN | apply below_drew1) | exact HB.out)⟩⟩
 case rest =>
  clear HC4
  try clear p2
  try clear c5
  try clear c5b0
  try clear c5b1
  obtain ⟨kq, x25_3, rfl, HA, HJ3, HB⟩ := hcut
  cases kq with
  | zero => exact absurd HA.out (by simp [portcullislaw08_SkelTells.j0])
  | succ kj3 =>
   have H := HA.out
   clear HA
   simp only [portcullislaw08_SkelTells.j0] at H
   by_cases c6 : x25_3 = true
   ·subst c6
    have H1 : ((portcullislaw08_works.f kj3).bind fun t515 => (some t515)) = some r := by rw [if_pos rfl] at H; exact H
    clear H
    have H := H1
    clear H1
    replace H := Option.bind_eq_some_iff.mp H
    obtain ⟨t515, A70, H⟩ := H
    replace H : (some t515) = some r := H
    have A7 := Aside0.mk A70
    clear A70
    obtain rfl := Option.some.inj H
    go_wp2_with (first | (go_at_call 8; (with_reducible refine (portcullislaw08_works.calls kj3  t515 _ A7.out (WG.keep HG.out (by repeat (first | (with_reducible first | exact HB.out | apply below_alloc | apply pw_below_drewN | apply below_drew1) | exact HB.out)))).mono ?_); rintro e w8 ⟨rfl, hb⟩; have n0_ := Aside0.mk (below_step (by repeat (first | (with_reducible first | exact HB.out | apply below_alloc | apply pw_below_drewN | apply below_drew1) | exact HB.out)) hb); clear HB; have HB := n0_; clear n0_; (try clear hb); (try clear hb2); (try clear hk); (try clear hi)))
    repeat (go_quiet (first | (go_at_call 8; (with_reducible refine (portcullislaw08_works.calls kj3  t515 _ A7.out (WG.keep HG.out (by repeat (first | (with_reducible first | exact HB.out | apply below_alloc | apply pw_below_drewN | apply below_drew1) | exact HB.out)))).mono ?_); rintro e w8 ⟨rfl, hb⟩; have n0_ := Aside0.mk (below_step (by repeat (first | (with_reducible first | exact HB.out | apply below_alloc | apply pw_below_drewN | apply below_drew1) | exact HB.out)) hb); clear HB; have HB := n0_; clear n0_; (try clear hb); (try clear hb2); (try clear hk); (try clear hi))); try go_wp2_with (first | (go_at_call 8; (with_reducible refine (portcullislaw08_works.calls kj3  t515 _ A7.out (WG.keep HG.out (by repeat (first | (with_reducible first | exact HB.out | apply below_alloc | apply pw_below_drewN | apply below_drew1) | exact HB.out)))).mono ?_); rintro e w8 ⟨rfl, hb⟩; have n0_ := Aside0.mk (below_step (by repeat (first | (with_reducible first | exact HB.out | apply below_alloc | apply pw_below_drewN | apply below_drew1) | exact HB.out)) hb); clear HB; have HB := n0_; clear n0_; (try clear hb); (try clear hb2); (try clear hk); (try clear hi))))
    go_ret
    exact ⟨by first | rfl | (simp [errW_none, errW_some] <;> rfl) | (simp [*, errW_none, errW_some] <;> rfl), by repeat (first | (with_reducible first | exact HB.out | apply below_alloc | apply pw_below_drewN | apply below_drew1) | exact HB.out)⟩
   ·replace c6 := Bool.eq_false_iff.mpr c6
    subst c6
    have H1 : ((portcullisref08_Skeleton.f kj3 a0).bind fun t516 => ((portcullisref08_Skeleton.f kj3 a1).bind fun t517 => ((skel_Scripts.f a0).bind fun t518 => ((portcullisref08_Scripts.f kj3 a0).bind fun t521 => ((skel_Skeleton.f kj3 a0).bind fun t524 => (if t524.toList = t516.toList then ((skel_Alike.f kj3 a0 a1).bind fun t525 => (if (t525 != (t516.toList == t517.toList)) = true then (portcullislaw08_SkelTells.j1 kj3 a1 a2 t518 t521 true) else (if (t518.length : Int) = (t521.length : Int) then ((skel_Level.f a0).bind fun t526 => ((portcullisref08_Level.f kj3 a0).bind fun t527 => (portcullislaw08_SkelTells.j1 kj3 a1 a2 t518 t521 (t526 != t527)))) else (portcullislaw08_SkelTells.j1 kj3 a1 a2 t518 t521 true)))) else (portcullislaw08_SkelTells.j1 kj3 a1 a2 t518 t521 true))))))) = some r := by rw [if_neg (show ¬ (false = true) by decide)] at H; exact H
    clear H
    have H := H1
    clear H1
    replace H := Option.bind_eq_some_iff.mp H
    obtain ⟨t516, A90, H⟩ := H
    replace H : ((portcullisref08_Skeleton.f kj3 a1).bind fun t517 => ((skel_Scripts.f a0).bind fun t518 => ((portcullisref08_Scripts.f kj3 a0).bind fun t521 => ((skel_Skeleton.f kj3 a0).bind fun t524 => (if t524.toList = t516.toList then ((skel_Alike.f kj3 a0 a1).bind fun t525 => (if (t525 != (t516.toList == t517.toList)) = true then (portcullislaw08_SkelTells.j1 kj3 a1 a2 t518 t521 true) else (if (t518.length : Int) = (t521.length : Int) then ((skel_Level.f a0).bind fun t526 => ((portcullisref08_Level.f kj3 a0).bind fun t527 => (portcullislaw08_SkelTells.j1 kj3 a1 a2 t518 t521 (t526 != t527)))) else (portcullislaw08_SkelTells.j1 kj3 a1 a2 t518 t521 true)))) else (portcullislaw08_SkelTells.j1 kj3 a1 a2 t518 t521 true)))))) = some r := H
    have A9 := Aside0.mk A90
    clear A90
    replace H := Option.bind_eq_some_iff.mp H
    obtain ⟨t517, A100, H⟩ := H
    replace H : ((skel_Scripts.f a0).bind fun t518 => ((portcullisref08_Scripts.f kj3 a0).bind fun t521 => ((skel_Skeleton.f kj3 a0).bind fun t524 => (if t524.toList = t516.toList then ((skel_Alike.f kj3 a0 a1).bind fun t525 => (if (t525 != (t516.toList == t517.toList)) = true then (portcullislaw08_SkelTells.j1 kj3 a1 a2 t518 t521 true) else (if (t518.length : Int) = (t521.length : Int) then ((skel_Level.f a0).bind fun t526 => ((portcullisref08_Level.f kj3 a0).bind fun t527 => (portcullislaw08_SkelTells.j1 kj3 a1 a2 t518 t521 (t526 != t527)))) else (portcullislaw08_SkelTells.j1 kj3 a1 a2 t518 t521 true)))) else (portcullislaw08_SkelTells.j1 kj3 a1 a2 t518 t521 true))))) = some r := H
    have A10 := Aside0.mk A100
    clear A100
    replace H := Option.bind_eq_some_iff.mp H
    obtain ⟨t518, A110, H⟩ := H
    replace H : ((portcullisref08_Scripts.f kj3 a0).bind fun t521 => ((skel_Skeleton.f kj3 a0).bind fun t524 => (if t524.toList = t516.toList then ((skel_Alike.f kj3 a0 a1).bind fun t525 => (if (t525 != (t516.toList == t517.toList)) = true then (portcullislaw08_SkelTells.j1 kj3 a1 a2 t518 t521 true) else (if (t518.length : Int) = (t521.length : Int) then ((skel_Level.f a0).bind fun t526 => ((portcullisref08_Level.f kj3 a0).bind fun t527 => (portcullislaw08_SkelTells.j1 kj3 a1 a2 t518 t521 (t526 != t527)))) else (portcullislaw08_SkelTells.j1 kj3 a1 a2 t518 t521 true)))) else (portcullislaw08_SkelTells.j1 kj3 a1 a2 t518 t521 true)))) = some r := H
    have A11 := Aside0.mk A110
    clear A110
    replace H := Option.bind_eq_some_iff.mp H
    obtain ⟨t521, A120, H⟩ := H
    replace H : ((skel_Skeleton.f kj3 a0).bind fun t524 => (if t524.toList = t516.toList then ((skel_Alike.f kj3 a0 a1).bind fun t525 => (if (t525 != (t516.toList == t517.toList)) = true then (portcullislaw08_SkelTells.j1 kj3 a1 a2 t518 t521 true) else (if (t518.length : Int) = (t521.length : Int) then ((skel_Level.f a0).bind fun t526 => ((portcullisref08_Level.f kj3 a0).bind fun t527 => (portcullislaw08_SkelTells.j1 kj3 a1 a2 t518 t521 (t526 != t527)))) else (portcullislaw08_SkelTells.j1 kj3 a1 a2 t518 t521 true)))) else (portcullislaw08_SkelTells.j1 kj3 a1 a2 t518 t521 true))) = some r := H
    have A12 := Aside0.mk A120
    clear A120
    have HC13 := Aside0.mk H
    clear H
    go_upto_region 6 with (first | (go_at_call 12; (with_reducible refine (portcullisref08_Skeleton.calls kj3 a0 t516 _ A9.out).mono ?_); rintro e w14 ⟨rfl, hb⟩; have n0_ := Aside0.mk (below_step (by repeat (first | (with_reducible first | exact HB.out | apply below_alloc | apply pw_below_drewN | apply below_drew1) | exact HB.out)) hb); clear HB; have HB := n0_; clear n0_; (try clear hb); (try clear hb2); (try clear hk); (try clear hi)) | (go_at_call 12; (with_reducible refine (portcullisref08_Skeleton.calls kj3 a1 t517 _ A10.out).mono ?_); rintro e w15 ⟨rfl, hb⟩; have n0_ := Aside0.mk (below_step (by repeat (first | (with_reducible first | exact HB.out | apply below_alloc | apply pw_below_drewN | apply below_drew1) | exact HB.out)) hb); clear HB; have HB := n0_; clear n0_; (try clear hb); (try clear hb2); (try clear hk); (try clear hi)) | (go_at_call 13; (with_reducible refine (skel_Scripts.calls a0 t518 _ A11.out (WG.keep HG.out (by repeat (first | (with_reducible first | exact HB.out | apply below_alloc | apply pw_below_drewN | apply below_drew1) | exact HB.out)))).mono ?_); rintro e w16 ⟨v519, rfl, ho0, hb⟩; have n0_ := Aside0.mk (Kd.R_lower ho0 (below_size (by repeat (first | (with_reducible first | exact HB.out | apply below_alloc | apply pw_below_drewN | apply below_drew1) | exact HB.out)))); have n1_ := Aside0.mk (below_step (by repeat (first | (with_reducible first | exact HB.out | apply below_alloc | apply pw_below_drewN | apply below_drew1) | exact HB.out)) hb); clear HB; have HO520 := n0_; have HB := n1_; clear n0_ n1_; (try clear hb); (try clear hb2); (try clear hk); (try clear hi); (try clear ho0)) | (go_at_call 14; (with_reducible refine (portcullisref08_Scripts.calls kj3 a0 t521 _ A12.out).mono ?_); rintro e w17 ⟨v522, rfl, ho0, hb⟩; have n0_ := Aside0.mk (Kd.R_elder' (by (with_reducible repeat (first | apply Kd.R_alloc | apply Kd.R_drewN | apply Kd.R_drew)); exact HO520.out) (Kd.R_base ho0) hb); have n1_ := Aside0.mk (Kd.R_lower (Kd.R_new' ho0 (Kd.R_lt (by (with_reducible repeat (first | apply Kd.R_alloc | apply Kd.R_drewN | apply Kd.R_drew)); exact HO520.out))) (below_size (by repeat (first | (with_reducible first | exact HB.out | apply below_alloc | apply pw_below_drewN | apply below_drew1) | exact HB.out)))); have n2_ := Aside0.mk (below_step (by repeat (first | (with_reducible first | exact HB.out | apply below_alloc | apply pw_below_drewN | apply below_drew1) | exact HB.out)) hb); clear HO520; clear HB; have HO520 := n0_; have HO523 := n1_; have HB := n2_; clear n0_ n1_ n2_; (try clear hb); (try clear hb2); (try clear hk); (try clear hi); (try clear ho0)))
    repeat (go_quiet (first | (go_at_call 12; (with_reducible refine (portcullisref08_Skeleton.calls kj3 a0 t516 _ A9.out).mono ?_); rintro e w14 ⟨rfl, hb⟩; have n0_ := Aside0.mk (below_step (by repeat (first | (with_reducible first | exact HB.out | apply below_alloc | apply pw_below_drewN | apply below_drew1) | exact HB.out)) hb); clear HB; have HB := n0_; clear n0_; (try clear hb); (try clear hb2); (try clear hk); (try clear hi)) | (go_at_call 12; (with_reducible refine (portcullisref08_Skeleton.calls kj3 a1 t517 _ A10.out).mono ?_); rintro e w15 ⟨rfl, hb⟩; have n0_ := Aside0.mk (below_step (by repeat (first | (with_reducible first | exact HB.out | apply below_alloc | apply pw_below_drewN | apply below_drew1) | exact HB.out)) hb); clear HB; have HB := n0_; clear n0_; (try clear hb); (try clear hb2); (try clear hk); (try clear hi)) | (go_at_call 13; (with_reducible refine (skel_Scripts.calls a0 t518 _ A11.out (WG.keep HG.out (by repeat (first | (with_reducible first | exact HB.out | apply below_alloc | apply pw_below_drewN | apply below_drew1) | exact HB.out)))).mono ?_); rintro e w16 ⟨v519, rfl, ho0, hb⟩; have n0_ := Aside0.mk (Kd.R_lower ho0 (below_size (by repeat (first | (with_reducible first | exact HB.out | apply below_alloc | apply pw_below_drewN | apply below_drew1) | exact HB.out)))); have n1_ := Aside0.mk (below_step (by repeat (first | (with_reducible first | exact HB.out | apply below_alloc | apply pw_below_drewN | apply below_drew1) | exact HB.out)) hb); clear HB; have HO520 := n0_; have HB := n1_; clear n0_ n1_; (try clear hb); (try clear hb2); (try clear hk); (try clear hi); (try clear ho0)) | (go_at_call 14; (with_reducible refine (portcullisref08_Scripts.calls kj3 a0 t521 _ A12.out).mono ?_); rintro e w17 ⟨v522, rfl, ho0, hb⟩; have n0_ := Aside0.mk (Kd.R_elder' (by (with_reducible repeat (first | apply Kd.R_alloc | apply Kd.R_drewN | apply Kd.R_drew)); exact HO520.out) (Kd.R_base ho0) hb); have n1_ := Aside0.mk (Kd.R_lower (Kd.R_new' ho0 (Kd.R_lt (by (with_reducible repeat (first | apply Kd.R_alloc | apply Kd.R_drewN | apply Kd.R_drew)); exact HO520.out))) (below_size (by repeat (first | (with_reducible first | exact HB.out | apply below_alloc | apply pw_below_drewN | apply below_drew1) | exact HB.out)))); have n2_ := Aside0.mk (below_step (by repeat (first | (with_reducible first | exact HB.out | apply below_alloc | apply pw_below_drewN | apply below_drew1) | exact HB.out)) hb); clear HO520; clear HB; have HO520 := n0_; have HO523 := n1_; have HB := n2_; clear n0_ n1_ n2_; (try clear hb); (try clear hb2); (try clear hk); (try clear hi); (try clear ho0))); go_upto_region 6 with (first | (go_at_call 12; (with_reducible refine (portcullisref08_Skeleton.calls kj3 a0 t516 _ A9.out).mono ?_); rintro e w14 ⟨rfl, hb⟩; have n0_ := Aside0.mk (below_step (by repeat (first | (with_reducible first | exact HB.out | apply below_alloc | apply pw_below_drewN | apply below_drew1) | exact HB.out)) hb); clear HB; have HB := n0_; clear n0_; (try clear hb); (try clear hb2); (try clear hk); (try clear hi)) | (go_at_call 12; (with_reducible refine (portcullisref08_Skeleton.calls kj3 a1 t517 _ A10.out).mono ?_); rintro e w15 ⟨rfl, hb⟩; have n0_ := Aside0.mk (below_step (by repeat (first | (with_reducible first | exact HB.out | apply below_alloc | apply pw_below_drewN | apply below_drew1) | exact HB.out)) hb); clear HB; have HB := n0_; clear n0_; (try clear hb); (try clear hb2); (try clear hk); (try clear hi)) | (go_at_call 13; (with_reducible refine (skel_Scripts.calls a0 t518 _ A11.out (WG.keep HG.out (by repeat (first | (with_reducible first | exact HB.out | apply below_alloc | apply pw_below_drewN | apply below_drew1) | exact HB.out)))).mono ?_); rintro e w16 ⟨v519, rfl, ho0, hb⟩; have n0_ := Aside0.mk (Kd.R_lower ho0 (below_size (by repeat (first | (with_reducible first | exact HB.out | apply below_alloc | apply pw_below_drewN | apply below_drew1) | exact HB.out)))); have n1_ := Aside0.mk (below_step (by repeat (first | (with_reducible first | exact HB.out | apply below_alloc | apply pw_below_drewN | apply below_drew1) | exact HB.out)) hb); clear HB; have HO520 := n0_; have HB := n1_; clear n0_ n1_; (try clear hb); (try clear hb2); (try clear hk); (try clear hi); (try clear ho0)) | (go_at_call 14; (with_reducible refine (portcullisref08_Scripts.calls kj3 a0 t521 _ A12.out).mono ?_); rintro e w17 ⟨v522, rfl, ho0, hb⟩; have n0_ := Aside0.mk (Kd.R_elder' (by (with_reducible repeat (first | apply Kd.R_alloc | apply Kd.R_drewN | apply Kd.R_drew)); exact HO520.out) (Kd.R_base ho0) hb); have n1_ := Aside0.mk (Kd.R_lower (Kd.R_new' ho0 (Kd.R_lt (by (with_reducible repeat (first | apply Kd.R_alloc | apply Kd.R_drewN | apply Kd.R_drew)); exact HO520.out))) (below_size (by repeat (first | (with_reducible first | exact HB.out | apply below_alloc | apply pw_below_drewN | apply below_drew1) | exact HB.out)))); have n2_ := Aside0.mk (below_step (by repeat (first | (with_reducible first | exact HB.out | apply below_alloc | apply pw_below_drewN | apply below_drew1) | exact HB.out)) hb); clear HO520; clear HB; have HO520 := n0_; have HO523 := n1_; have HB := n2_; clear n0_ n1_ n2_; (try clear hb); (try clear hb2); (try clear hk); (try clear hi); (try clear ho0))))
    (try simp only [Act.put, List.setIfInBounds_toArray, List.set_cons_zero, List.set_cons_succ])
    go_cut [61] (fun v61 wc => ∃ (kq : Nat) (x61_12 : Bool), v61 = .bool x61_12 ∧ Aside0 (portcullislaw08_SkelTells.j1 kq a1 a2 t518 t521 x61_12 = some r) ∧ Aside0 (kq ≤ kj3) ∧ Aside0 (Kd.R (Kd.int .u8) 5 wc w.heap.size (fun k_ => some k_ ≠ (v522 : Value).ownBlock) v519 t518) ∧ Aside0 (Kd.R (Kd.int .u8) 5 wc w.heap.size (fun k_ => some k_ ≠ (v519 : Value).ownBlock) v522 t521) ∧ Aside0 (Below w.heap.size w wc))
    case first =>
     have H := HC13.out
     clear HC13
     replace H := Option.bind_eq_some_iff.mp H
     obtain ⟨t524, A180, H⟩ := H
     replace H : (if t524.toList = t516.toList then ((skel_Alike.f kj3 a0 a1).bind fun t525 => (if (t525 != (t516.toList == t517.toList)) = true then (portcullislaw08_SkelTells.j1 kj3 a1 a2 t518 t521 true) else (if (t518.length : Int) = (t521.length : Int) then ((skel_Level.f a0).bind fun t526 => ((portcullisref08_Level.f kj3 a0).bind fun t527 => (portcullislaw08_SkelTells.j1 kj3 a1 a2 t518 t521 (t526 != t527)))) else (portcullislaw08_SkelTells.j1 kj3 a1 a2 t518 t521 true)))) else (portcullislaw08_SkelTells.j1 kj3 a1 a2 t518 t521 true)) = some r := H
     have A18 := Aside0.mk A180
     clear A180
     by_cases c19 : t524.toList = t516.toList
     ·rw [if_pos c19] at H
      have c19b0 : (t524.toList == t516.toList) = true := beq_iff_eq.mpr c19
      have c19b1 : (t524.toList != t516.toList) = false := bne_eq_false_iff_eq.mpr c19
      clear c19
      (first | rw [c19b0] | (simp only [i64_w, i32_w]; rw [c19b0]) | skip)
      replace H := Option.bind_eq_some_iff.mp H
      obtain ⟨t525, A200, H⟩ := H
      replace H : (if (t525 != (t516.toList == t517.toList)) = true then (portcullislaw08_SkelTells.j1 kj3 a1 a2 t518 t521 true) else (if (t518.length : Int) = (t521.length : Int) then ((skel_Level.f a0).bind fun t526 => ((portcullisref08_Level.f kj3 a0).bind fun t527 => (portcullislaw08_SkelTells.j1 kj3 a1 a2 t518 t521 (t526 != t527)))) else (portcullislaw08_SkelTells.j1 kj3 a1 a2 t518 t521 true))) = some r := H
      have A20 := Aside0.mk A200
      clear A200
      by_cases c21 : (t525 != (t516.toList == t517.toList)) = true
      ·rw [if_pos c21] at H
       have c21b0 : (t525 != (t516.toList == t517.toList)) = true := c21
       (try (have c21b1 : decide (t525 = (t516.toList == t517.toList)) = false := by simpa using c21))
       (try (have c21b2 : (t525 == (t516.toList == t517.toList)) = false := by simpa using c21))
       (try (have c21b3 : ¬ (t525 = (t516.toList == t517.toList)) := by simpa using c21))
       clear c21
       have H' := Aside0.mk H
       clear H
       go_wp2_with (first | (go_at_call 9; (with_reducible refine (skel_Skeleton.calls kj3 a0 t524 _ A18.out (WG.keep HG.out (by repeat (first | (with_reducible first | exact HB.out | apply below_alloc | apply pw_below_drewN | apply below_drew1) | exact HB.out)))).mono ?_); rintro e w22 ⟨rfl, hb⟩; have n0_ := Aside0.mk (Kd.R_below (by (with_reducible repeat (first | apply Kd.R_alloc | apply Kd.R_drewN | apply Kd.R_drew)); exact HO520.out) hb); have n1_ := Aside0.mk (Kd.R_below (by (with_reducible repeat (first | apply Kd.R_alloc | apply Kd.R_drewN | apply Kd.R_drew)); exact HO523.out) hb); have n2_ := Aside0.mk (below_step (by repeat (first | (with_reducible first | exact HB.out | apply below_alloc | apply pw_below_drewN | apply below_drew1) | exact HB.out)) hb); clear HO520; clear HO523; clear HB; have HO520 := n0_; have HO523 := n1_; have HB := n2_; clear n0_ n1_ n2_; (try clear hb); (try clear hb2); (try clear hk); (try clear hi)) | (go_at_call 10; (with_reducible refine (skel_Alike.calls kj3 a0 a1 t525 _ A20.out (WG.keep HG.out (by repeat (first | (with_reducible first | exact HB.out | apply below_alloc | apply pw_below_drewN | apply below_drew1) | exact HB.out)))).mono ?_); rintro e w23 ⟨rfl, hb⟩; have n0_ := Aside0.mk (Kd.R_below (by (with_reducible repeat (first | apply Kd.R_alloc | apply Kd.R_drewN | apply Kd.R_drew)); exact HO520.out) hb); have n1_ := Aside0.mk (Kd.R_below (by (with_reducible repeat (first | apply Kd.R_alloc | apply Kd.R_drewN | apply Kd.R_drew)); exact HO523.out) hb); have n2_ := Aside0.mk (below_step (by repeat (first | (with_reducible first | exact HB.out | apply below_alloc | apply pw_below_drewN | apply below_drew1) | exact HB.out)) hb); clear HO520; clear HO523; clear HB; have HO520 := n0_; have HO523 := n1_; have HB := n2_; clear n0_ n1_ n2_; (try clear hb); (try clear hb2); (try clear hk); (try clear hi)))
       repeat (go_quiet (first | (go_at_call 9; (with_reducible refine (skel_Skeleton.calls kj3 a0 t524 _ A18.out (WG.keep HG.out (by repeat (first | (with_reducible first | exact HB.out | apply below_alloc | apply pw_below_drewN | apply below_drew1) | exact HB.out)))).mono ?_); rintro e w22 ⟨rfl, hb⟩; have n0_ := Aside0.mk (Kd.R_below (by (with_reducible repeat (first | apply Kd.R_alloc | apply Kd.R_drewN | apply Kd.R_drew)); exact HO520.out) hb); have n1_ := Aside0.mk (Kd.R_below (by (with_reducible repeat (first | apply Kd.R_alloc | apply Kd.R_drewN | apply Kd.R_drew)); exact HO523.out) hb); have n2_ := Aside0.mk (below_step (by repeat (first | (with_reducible first | exact HB.out | apply below_alloc | apply pw_below_drewN | apply below_drew1) | exact HB.out)) hb); clear HO520; clear HO523; clear HB; have HO520 := n0_; have HO523 := n1_; have HB := n2_; clear n0_ n1_ n2_; (try clear hb); (try clear hb2); (try clear hk); (try clear hi)) | (go_at_call 10; (with_reducible refine (skel_Alike.calls kj3 a0 a1 t525 _ A20.out (WG.keep HG.out (by repeat (first | (with_reducible first | exact HB.out | apply below_alloc | apply pw_below_drewN | apply below_drew1) | exact HB.out)))).mono ?_); rintro e w23 ⟨rfl, hb⟩; have n0_ := Aside0.mk (Kd.R_below (by (with_reducible repeat (first | apply Kd.R_alloc | apply Kd.R_drewN | apply Kd.R_drew)); exact HO520.out) hb); have n1_ := Aside0.mk (Kd.R_below (by (with_reducible repeat (first | apply Kd.R_alloc | apply Kd.R_drewN | apply Kd.R_drew)); exact HO523.out) hb); have n2_ := Aside0.mk (below_step (by repeat (first | (with_reducible first | exact HB.out | apply below_alloc | apply pw_below_drewN | apply below_drew1) | exact HB.out)) hb); clear HO520; clear HO523; clear HB; have HO520 := n0_; have HO523 := n1_; have HB := n2_; clear n0_ n1_ n2_; (try clear hb); (try clear hb2); (try clear hk); (try clear hi))); try go_wp2_with (first | (go_at_call 9; (with_reducible refine (skel_Skeleton.calls kj3 a0 t524 _ A18.out (WG.keep HG.out (by repeat (first | (with_reducible first | exact HB.out | apply below_alloc | apply pw_below_drewN | apply below_drew1) | exact HB.out)))).mono ?_); rintro e w22 ⟨rfl, hb⟩; have n0_ := Aside0.mk (Kd.R_below (by (with_reducible repeat (first | apply Kd.R_alloc | apply Kd.R_drewN | apply Kd.R_drew)); exact HO520.out) hb); have n1_ := Aside0.mk (Kd.R_below (by (with_reducible repeat (first | apply Kd.R_alloc | apply Kd.R_drewN | apply Kd.R_drew)); exact HO523.out) hb); have n2_ := Aside0.mk (below_step (by repeat (first | (with_reducible first | exact HB.out | apply below_alloc | apply pw_below_drewN | apply below_drew1) | exact HB.out)) hb); clear HO520; clear HO523; clear HB; have HO520 := n0_; have HO523 := n1_; have HB := n2_; clear n0_ n1_ n2_; (try clear hb); (try clear hb2); (try clear hk); (try clear hi)) | (go_at_call 10; (with_reducible refine (skel_Alike.calls kj3 a0 a1 t525 _ A20.out (WG.keep HG.out (by repeat (first | (with_reducible first | exact HB.out | apply below_alloc | apply pw_below_drewN | apply below_drew1) | exact HB.out)))).mono ?_); rintro e w23 ⟨rfl, hb⟩; have n0_ := Aside0.mk (Kd.R_below (by (with_reducible repeat (first | apply Kd.R_alloc | apply Kd.R_drewN | apply Kd.R_drew)); exact HO520.out) hb); have n1_ := Aside0.mk (Kd.R_below (by (with_reducible repeat (first | apply Kd.R_alloc | apply Kd.R_drewN | apply Kd.R_drew)); exact HO523.out) hb); have n2_ := Aside0.mk (below_step (by repeat (first | (with_reducible first | exact HB.out | apply below_alloc | apply pw_below_drewN | apply below_drew1) | exact HB.out)) hb); clear HO520; clear HO523; clear HB; have HO520 := n0_; have HO523 := n1_; have HB := n2_; clear n0_ n1_ n2_; (try clear hb); (try clear hb2); (try clear hk); (try clear hi))))
       go_meet
       case rel => exact ⟨_, (true), (by first | rfl | (simp; done) | (simp [*]; done)), H', ⟨by have := HJ3.out; first | omega | exact Nat.le_refl _⟩, ⟨by (with_reducible repeat (first | apply Kd.R_alloc | apply Kd.R_drewN | apply Kd.R_drew)); exact Kd.R_mono HO520.out (fun _ hk => hk.2)⟩, ⟨by (with_reducible repeat (first | apply Kd.R_alloc | apply Kd.R_drewN | apply Kd.R_drew)); exact Kd.R_mono HO523.out (fun _ hk => hk.2)⟩, ⟨by repeat (first | (with_reducible first | exact HB.out | apply below_alloc | apply pw_below_drewN | apply below_drew1) | exact HB.out)⟩⟩
      ·rw [if_neg c21] at H
       have c21b0 : (t525 != (t516.toList == t517.toList)) = false := by simpa using c21
       (try (have c21b1 : decide (t525 = (t516.toList == t517.toList)) = true := by simpa using c21))
       (try (have c21b2 : (t525 == (t516.toList == t517.toList)) = true := by simpa using c21))
       clear c21
       by_cases c24 : (t518.length : Int) = (t521.length : Int)
       ·rw [if_pos c24] at H
        have c24b0 : ((t518.length : Int) == (t521.length : Int)) = true := beq_iff_eq.mpr c24
        have c24b1 : ((t518.length : Int) != (t521.length : Int)) = false := bne_eq_false_iff_eq.mpr c24
        have c24b2 : (t518.length == t521.length) = true := by first | simpa using c24 | (simp at c24 ⊢; omega)
        clear c24
        replace H := Option.bind_eq_some_iff.mp H
        obtain ⟨t526, A250, H⟩ := H
        replace H : ((portcullisref08_Level.f kj3 a0).bind fun t527 => (portcullislaw08_SkelTells.j1 kj3 a1 a2 t518 t521 (t526 != t527))) = some r := H
        have A25 := Aside0.mk A250
        clear A250
        replace H := Option.bind_eq_some_iff.mp H
        obtain ⟨t527, A260, H⟩ := H
        replace H : (portcullislaw08_SkelTells.j1 kj3 a1 a2 t518 t521 (t526 != t527)) = some r := H
        have A26 := Aside0.mk A260
        clear A260
        have H' := Aside0.mk H
        clear H
        go_wp2_with (first | (go_at_call 9; (with_reducible refine (skel_Skeleton.calls kj3 a0 t524 _ A18.out (WG.keep HG.out (by repeat (first | (with_reducible first | exact HB.out | apply below_alloc | apply pw_below_drewN | apply below_drew1) | exact HB.out)))).mono ?_); rintro e w27 ⟨rfl, hb⟩; have n0_ := Aside0.mk (Kd.R_below (by (with_reducible repeat (first | apply Kd.R_alloc | apply Kd.R_drewN | apply Kd.R_drew)); exact HO520.out) hb); have n1_ := Aside0.mk (Kd.R_below (by (with_reducible repeat (first | apply Kd.R_alloc | apply Kd.R_drewN | apply Kd.R_drew)); exact HO523.out) hb); have n2_ := Aside0.mk (below_step (by repeat (first | (with_reducible first | exact HB.out | apply below_alloc | apply pw_below_drewN | apply below_drew1) | exact HB.out)) hb); clear HO520; clear HO523; clear HB; have HO520 := n0_; have HO523 := n1_; have HB := n2_; clear n0_ n1_ n2_; (try clear hb); (try clear hb2); (try clear hk); (try clear hi)) | (go_at_call 10; (with_reducible refine (skel_Alike.calls kj3 a0 a1 t525 _ A20.out (WG.keep HG.out (by repeat (first | (with_reducible first | exact HB.out | apply below_alloc | apply pw_below_drewN | apply below_drew1) | exact HB.out)))).mono ?_); rintro e w28 ⟨rfl, hb⟩; have n0_ := Aside0.mk (Kd.R_below (by (with_reducible repeat (first | apply Kd.R_alloc | apply Kd.R_drewN | apply Kd.R_drew)); exact HO520.out) hb); have n1_ := Aside0.mk (Kd.R_below (by (with_reducible repeat (first | apply Kd.R_alloc | apply Kd.R_drewN | apply Kd.R_drew)); exact HO523.out) hb); have n2_ := Aside0.mk (below_step (by repeat (first | (with_reducible first | exact HB.out | apply below_alloc | apply pw_below_drewN | apply below_drew1) | exact HB.out)) hb); clear HO520; clear HO523; clear HB; have HO520 := n0_; have HO523 := n1_; have HB := n2_; clear n0_ n1_ n2_; (try clear hb); (try clear hb2); (try clear hk); (try clear hi); obtain ⟨Ao29, co29, eo29⟩ := Kd.R_slice HO520.out; subst eo29; obtain ⟨Ao30, co30, eo30⟩ := Kd.R_slice HO523.out; subst eo30) | (go_at_call 15; (with_reducible refine (skel_Level.calls a0 t526 _ A25.out (WG.keep HG.out (by repeat (first | (with_reducible first | exact HB.out | apply below_alloc | apply pw_below_drewN | apply below_drew1) | exact HB.out)))).mono ?_); rintro e w31 ⟨rfl, hb⟩; have n0_ := Aside0.mk (Kd.R_below (by (with_reducible repeat (first | apply Kd.R_alloc | apply Kd.R_drewN | apply Kd.R_drew)); exact HO520.out) hb); have n1_ := Aside0.mk (Kd.R_below (by (with_reducible repeat (first | apply Kd.R_alloc | apply Kd.R_drewN | apply Kd.R_drew)); exact HO523.out) hb); have n2_ := Aside0.mk (below_step (by repeat (first | (with_reducible first | exact HB.out | apply below_alloc | apply pw_below_drewN | apply below_drew1) | exact HB.out)) hb); clear HO520; clear HO523; clear HB; have HO520 := n0_; have HO523 := n1_; have HB := n2_; clear n0_ n1_ n2_; (try clear hb); (try clear hb2); (try clear hk); (try clear hi)) | (go_at_call 16; (with_reducible refine (portcullisref08_Level.calls kj3 a0 t527 _ A26.out).mono ?_); rintro e w32 ⟨rfl, hb⟩; have n0_ := Aside0.mk (Kd.R_below (by (with_reducible repeat (first | apply Kd.R_alloc | apply Kd.R_drewN | apply Kd.R_drew)); exact HO520.out) hb); have n1_ := Aside0.mk (Kd.R_below (by (with_reducible repeat (first | apply Kd.R_alloc | apply Kd.R_drewN | apply Kd.R_drew)); exact HO523.out) hb); have n2_ := Aside0.mk (below_step (by repeat (first | (with_reducible first | exact HB.out | apply below_alloc | apply pw_below_drewN | apply below_drew1) | exact HB.out)) hb); clear HO520; clear HO523; clear HB; have HO520 := n0_; have HO523 := n1_; have HB := n2_; clear n0_ n1_ n2_; (try clear hb); (try clear hb2); (try clear hk); (try clear hi)))
        repeat (go_quiet (first | (go_at_call 9; (with_reducible refine (skel_Skeleton.calls kj3 a0 t524 _ A18.out (WG.keep HG.out (by repeat (first | (with_reducible first | exact HB.out | apply below_alloc | apply pw_below_drewN | apply below_drew1) | exact HB.out)))).mono ?_); rintro e w27 ⟨rfl, hb⟩; have n0_ := Aside0.mk (Kd.R_below (by (with_reducible repeat (first | apply Kd.R_alloc | apply Kd.R_drewN | apply Kd.R_drew)); exact HO520.out) hb); have n1_ := Aside0.mk (Kd.R_below (by (with_reducible repeat (first | apply Kd.R_alloc | apply Kd.R_drewN | apply Kd.R_drew)); exact HO523.out) hb); have n2_ := Aside0.mk (below_step (by repeat (first | (with_reducible first | exact HB.out | apply below_alloc | apply pw_below_drewN | apply below_drew1) | exact HB.out)) hb); clear HO520; clear HO523; clear HB; have HO520 := n0_; have HO523 := n1_; have HB := n2_; clear n0_ n1_ n2_; (try clear hb); (try clear hb2); (try clear hk); (try clear hi)) | (go_at_call 10; (with_reducible refine (skel_Alike.calls kj3 a0 a1 t525 _ A20.out (WG.keep HG.out (by repeat (first | (with_reducible first | exact HB.out | apply below_alloc | apply pw_below_drewN | apply below_drew1) | exact HB.out)))).mono ?_); rintro e w28 ⟨rfl, hb⟩; have n0_ := Aside0.mk (Kd.R_below (by (with_reducible repeat (first | apply Kd.R_alloc | apply Kd.R_drewN | apply Kd.R_drew)); exact HO520.out) hb); have n1_ := Aside0.mk (Kd.R_below (by (with_reducible repeat (first | apply Kd.R_alloc | apply Kd.R_drewN | apply Kd.R_drew)); exact HO523.out) hb); have n2_ := Aside0.mk (below_step (by repeat (first | (with_reducible first | exact HB.out | apply below_alloc | apply pw_below_drewN | apply below_drew1) | exact HB.out)) hb); clear HO520; clear HO523; clear HB; have HO520 := n0_; have HO523 := n1_; have HB := n2_; clear n0_ n1_ n2_; (try clear hb); (try clear hb2); (try clear hk); (try clear hi); obtain ⟨Ao29, co29, eo29⟩ := Kd.R_slice HO520.out; subst eo29; obtain ⟨Ao30, co30, eo30⟩ := Kd.R_slice HO523.out; subst eo30) | (go_at_call 15; (with_reducible refine (skel_Level.calls a0 t526 _ A25.out (WG.keep HG.out (by repeat (first | (with_reducible first | exact HB.out | apply below_alloc | apply pw_below_drewN | apply below_drew1) | exact HB.out)))).mono ?_); rintro e w31 ⟨rfl, hb⟩; have n0_ := Aside0.mk (Kd.R_below (by (with_reducible repeat (first | apply Kd.R_alloc | apply Kd.R_drewN | apply Kd.R_drew)); exact HO520.out) hb); have n1_ := Aside0.mk (Kd.R_below (by (with_reducible repeat (first | apply Kd.R_alloc | apply Kd.R_drewN | apply Kd.R_drew)); exact HO523.out) hb); have n2_ := Aside0.mk (below_step (by repeat (first | (with_reducible first | exact HB.out | apply below_alloc | apply pw_below_drewN | apply below_drew1) | exact HB.out)) hb); clear HO520; clear HO523; clear HB; have HO520 := n0_; have HO523 := n1_; have HB := n2_; clear n0_ n1_ n2_; (try clear hb); (try clear hb2); (try clear hk); (try clear hi)) | (go_at_call 16; (with_reducible refine (portcullisref08_Level.calls kj3 a0 t527 _ A26.out).mono ?_); rintro e w32 ⟨rfl, hb⟩; have n0_ := Aside0.mk (Kd.R_below (by (with_reducible repeat (first | apply Kd.R_alloc | apply Kd.R_drewN | apply Kd.R_drew)); exact HO520.out) hb); have n1_ := Aside0.mk (Kd.R_below (by (with_reducible repeat (first | apply Kd.R_alloc | apply Kd.R_drewN | apply Kd.R_drew)); exact HO523.out) hb); have n2_ := Aside0.mk (below_step (by repeat (first | (with_reducible first | exact HB.out | apply below_alloc | apply pw_below_drewN | apply below_drew1) | exact HB.out)) hb); clear HO520; clear HO523; clear HB; have HO520 := n0_; have HO523 := n1_; have HB := n2_; clear n0_ n1_ n2_; (try clear hb); (try clear hb2); (try clear hk); (try clear hi))); try go_wp2_with (first | (go_at_call 9; (with_reducible refine (skel_Skeleton.calls kj3 a0 t524 _ A18.out (WG.keep HG.out (by repeat (first | (with_reducible first | exact HB.out | apply below_alloc | apply pw_below_drewN | apply below_drew1) | exact HB.out)))).mono ?_); rintro e w27 ⟨rfl, hb⟩; have n0_ := Aside0.mk (Kd.R_below (by (with_reducible repeat (first | apply Kd.R_alloc | apply Kd.R_drewN | apply Kd.R_drew)); exact HO520.out) hb); have n1_ := Aside0.mk (Kd.R_below (by (with_reducible repeat (first | apply Kd.R_alloc | apply Kd.R_drewN | apply Kd.R_drew)); exact HO523.out) hb); have n2_ := Aside0.mk (below_step (by repeat (first | (with_reducible first | exact HB.out | apply below_alloc | apply pw_below_drewN | apply below_drew1) | exact HB.out)) hb); clear HO520; clear HO523; clear HB; have HO520 := n0_; have HO523 := n1_; have HB := n2_; clear n0_ n1_ n2_; (try clear hb); (try clear hb2); (try clear hk); (try clear hi)) | (go_at_call 10; (with_reducible refine (skel_Alike.calls kj3 a0 a1 t525 _ A20.out (WG.keep HG.out (by repeat (first | (with_reducible first | exact HB.out | apply below_alloc | apply pw_below_drewN | apply below_drew1) | exact HB.out)))).mono ?_); rintro e w28 ⟨rfl, hb⟩; have n0_ := Aside0.mk (Kd.R_below (by (with_reducible repeat (first | apply Kd.R_alloc | apply Kd.R_drewN | apply Kd.R_drew)); exact HO520.out) hb); have n1_ := Aside0.mk (Kd.R_below (by (with_reducible repeat (first | apply Kd.R_alloc | apply Kd.R_drewN | apply Kd.R_drew)); exact HO523.out) hb); have n2_ := Aside0.mk (below_step (by repeat (first | (with_reducible first | exact HB.out | apply below_alloc | apply pw_below_drewN | apply below_drew1) | exact HB.out)) hb); clear HO520; clear HO523; clear HB; have HO520 := n0_; have HO523 := n1_; have HB := n2_; clear n0_ n1_ n2_; (try clear hb); (try clear hb2); (try clear hk); (try clear hi); obtain ⟨Ao29, co29, eo29⟩ := Kd.R_slice HO520.out; subst eo29; obtain ⟨Ao30, co30, eo30⟩ := Kd.R_slice HO523.out; subst eo30) | (go_at_call 15; (with_reducible refine (skel_Level.calls a0 t526 _ A25.out (WG.keep HG.out (by repeat (first | (with_reducible first | exact HB.out | apply below_alloc | apply pw_below_drewN | apply below_drew1) | exact HB.out)))).mono ?_); rintro e w31 ⟨rfl, hb⟩; have n0_ := Aside0.mk (Kd.R_below (by (with_reducible repeat (first | apply Kd.R_alloc | apply Kd.R_drewN | apply Kd.R_drew)); exact HO520.out) hb); have n1_ := Aside0.mk (Kd.R_below (by (with_reducible repeat (first | apply Kd.R_alloc | apply Kd.R_drewN | apply Kd.R_drew)); exact HO523.out) hb); have n2_ := Aside0.mk (below_step (by repeat (first | (with_reducible first | exact HB.out | apply below_alloc | apply pw_below_drewN | apply below_drew1) | exact HB.out)) hb); clear HO520; clear HO523; clear HB; have HO520 := n0_; have HO523 := n1_; have HB := n2_; clear n0_ n1_ n2_; (try clear hb); (try clear hb2); (try clear hk); (try clear hi)) | (go_at_call 16; (with_reducible refine (portcullisref08_Level.calls kj3 a0 t527 _ A26.out).mono ?_); rintro e w32 ⟨rfl, hb⟩; have n0_ := Aside0.mk (Kd.R_below (by (with_reducible repeat (first | apply Kd.R_alloc | apply Kd.R_drewN | apply Kd.R_drew)); exact HO520.out) hb); have n1_ := Aside0.mk (Kd.R_below (by (with_reducible repeat (first | apply Kd.R_alloc | apply Kd.R_drewN | apply Kd.R_drew)); exact HO523.out) hb); have n2_ := Aside0.mk (below_step (by repeat (first | (with_reducible first | exact HB.out | apply below_alloc | apply pw_below_drewN | apply below_drew1) | exact HB.out)) hb); clear HO520; clear HO523; clear HB; have HO520 := n0_; have HO523 := n1_; have HB := n2_; clear n0_ n1_ n2_; (try clear hb); (try clear hb2); (try clear hk); (try clear hi))))
        go_meet
        case rel => exact ⟨_, ((t526 != t527)), (by first | rfl | (simp; done) | (simp [*]; done)), H', ⟨by have := HJ3.out; first | omega | exact Nat.le_refl _⟩, ⟨by (with_reducible repeat (first | apply Kd.R_alloc | apply Kd.R_drewN | apply Kd.R_drew)); exact Kd.R_mono HO520.out (fun _ hk => hk.2)⟩, ⟨by (with_reducible repeat (first | apply Kd.R_alloc | apply Kd.R_drewN | apply Kd.R_drew)); exact Kd.R_mono HO523.out (fun _ hk => hk.2)⟩, ⟨by repeat (first | (with_reducible first | exact HB.out | apply below_alloc | apply pw_below_drewN | apply below_drew1) | exact HB.out)⟩⟩
       ·rw [if_neg c24] at H
        have c24b0 : ((t518.length : Int) == (t521.length : Int)) = false := beq_eq_false_iff_ne.mpr c24
        have c24b1 : ((t518.length : Int) != (t521.length : Int)) = true := bne_iff_ne.mpr c24
        have c24b2 : (t518.length == t521.length) = false := by first | simpa using c24 | (simp at c24 ⊢; omega)
        have H' := Aside0.mk H
        clear H
        go_wp2_with (first | (go_at_call 9; (with_reducible refine (skel_Skeleton.calls kj3 a0 t524 _ A18.out (WG.keep HG.out (by repeat (first | (with_reducible first | exact HB.out | apply below_alloc | apply pw_below_drewN | apply below_drew1) | exact HB.out)))).mono ?_); rintro e w33 ⟨rfl, hb⟩; have n0_ := Aside0.mk (Kd.R_below (by (with_reducible repeat (first | apply Kd.R_alloc | apply Kd.R_drewN | apply Kd.R_drew)); exact HO520.out) hb); have n1_ := Aside0.mk (Kd.R_below (by (with_reducible repeat (first | apply Kd.R_alloc | apply Kd.R_drewN | apply Kd.R_drew)); exact HO523.out) hb); have n2_ := Aside0.mk (below_step (by repeat (first | (with_reducible first | exact HB.out | apply below_alloc | apply pw_below_drewN | apply below_drew1) | exact HB.out)) hb); clear HO520; clear HO523; clear HB; have HO520 := n0_; have HO523 := n1_; have HB := n2_; clear n0_ n1_ n2_; (try clear hb); (try clear hb2); (try clear hk); (try clear hi)) | (go_at_call 10; (with_reducible refine (skel_Alike.calls kj3 a0 a1 t525 _ A20.out (WG.keep HG.out (by repeat (first | (with_reducible first | exact HB.out | apply below_alloc | apply pw_below_drewN | apply below_drew1) | exact HB.out)))).mono ?_); rintro e w34 ⟨rfl, hb⟩; have n0_ := Aside0.mk (Kd.R_below (by (with_reducible repeat (first | apply Kd.R_alloc | apply Kd.R_drewN | apply Kd.R_drew)); exact HO520.out) hb); have n1_ := Aside0.mk (Kd.R_below (by (with_reducible repeat (first | apply Kd.R_alloc | apply Kd.R_drewN | apply Kd.R_drew)); exact HO523.out) hb); have n2_ := Aside0.mk (below_step (by repeat (first | (with_reducible first | exact HB.out | apply below_alloc | apply pw_below_drewN | apply below_drew1) | exact HB.out)) hb); clear HO520; clear HO523; clear HB; have HO520 := n0_; have HO523 := n1_; have HB := n2_; clear n0_ n1_ n2_; (try clear hb); (try clear hb2); (try clear hk); (try clear hi); obtain ⟨Ao35, co35, eo35⟩ := Kd.R_slice HO520.out; subst eo35; obtain ⟨Ao36, co36, eo36⟩ := Kd.R_slice HO523.out; subst eo36))
        repeat (go_quiet (first | (go_at_call 9; (with_reducible refine (skel_Skeleton.calls kj3 a0 t524 _ A18.out (WG.keep HG.out (by repeat (first | (with_reducible first | exact HB.out | apply below_alloc | apply pw_below_drewN | apply below_drew1) | exact HB.out)))).mono ?_); rintro e w33 ⟨rfl, hb⟩; have n0_ := Aside0.mk (Kd.R_below (by (with_reducible repeat (first | apply Kd.R_alloc | apply Kd.R_drewN | apply Kd.R_drew)); exact HO520.out) hb); have n1_ := Aside0.mk (Kd.R_below (by (with_reducible repeat (first | apply Kd.R_alloc | apply Kd.R_drewN | apply Kd.R_drew)); exact HO523.out) hb); have n2_ := Aside0.mk (below_step (by repeat (first | (with_reducible first | exact HB.out | apply below_alloc | apply pw_below_drewN | apply below_drew1) | exact HB.out)) hb); clear HO520; clear HO523; clear HB; have HO520 := n0_; have HO523 := n1_; have HB := n2_; clear n0_ n1_ n2_; (try clear hb); (try clear hb2); (try clear hk); (try clear hi)) | (go_at_call 10; (with_reducible refine (skel_Alike.calls kj3 a0 a1 t525 _ A20.out (WG.keep HG.out (by repeat (first | (with_reducible first | exact HB.out | apply below_alloc | apply pw_below_drewN | apply below_drew1) | exact HB.out)))).mono ?_); rintro e w34 ⟨rfl, hb⟩; have n0_ := Aside0.mk (Kd.R_below (by (with_reducible repeat (first | apply Kd.R_alloc | apply Kd.R_drewN | apply Kd.R_drew)); exact HO520.out) hb); have n1_ := Aside0.mk (Kd.R_below (by (with_reducible repeat (first | apply Kd.R_alloc | apply Kd.R_drewN | apply Kd.R_drew)); exact HO523.out) hb); have n2_ := Aside0.mk (below_step (by repeat (first | (with_reducible first | exact HB.out | apply below_alloc | apply pw_below_drewN | apply below_drew1) | exact HB.out)) hb); clear HO520; clear HO523; clear HB; have HO520 := n0_; have HO523 := n1_; have HB := n2_; clear n0_ n1_ n2_; (try clear hb); (try clear hb2); (try clear hk); (try clear hi); obtain ⟨Ao35, co35, eo35⟩ := Kd.R_slice HO520.out; subst eo35; obtain ⟨Ao36, co36, eo36⟩ := Kd.R_slice HO523.out; subst eo36)); try go_wp2_with (first | (go_at_call 9; (with_reducible refine (skel_Skeleton.calls kj3 a0 t524 _ A18.out (WG.keep HG.out (by repeat (first | (with_reducible first | exact HB.out | apply below_alloc | apply pw_below_drewN | apply below_drew1) | exact HB.out)))).mono ?_); rintro e w33 ⟨rfl, hb⟩; have n0_ := Aside0.mk (Kd.R_below (by (with_reducible repeat (first | apply Kd.R_alloc | apply Kd.R_drewN | apply Kd.R_drew)); exact HO520.out) hb); have n1_ := Aside0.mk (Kd.R_below (by (with_reducible repeat (first | apply Kd.R_alloc | apply Kd.R_drewN | apply Kd.R_drew)); exact HO523.out) hb); have n2_ := Aside0.mk (below_step (by repeat (first | (with_reducible first | exact HB.out | apply below_alloc | apply pw_below_drewN | apply below_drew1) | exact HB.out)) hb); clear HO520; clear HO523; clear HB; have HO520 := n0_; have HO523 := n1_; have HB := n2_; clear n0_ n1_ n2_; (try clear hb); (try clear hb2); (try clear hk); (try clear hi)) | (go_at_call 10; (with_reducible refine (skel_Alike.calls kj3 a0 a1 t525 _ A20.out (WG.keep HG.out (by repeat (first | (with_reducible first | exact HB.out | apply below_alloc | apply pw_below_drewN | apply below_drew1) | exact HB.out)))).mono ?_); rintro e w34 ⟨rfl, hb⟩; have n0_ := Aside0.mk (Kd.R_below (by (with_reducible repeat (first | apply Kd.R_alloc | apply Kd.R_drewN | apply Kd.R_drew)); exact HO520.out) hb); have n1_ := Aside0.mk (Kd.R_below (by (with_reducible repeat (first | apply Kd.R_alloc | apply Kd.R_drewN | apply Kd.R_drew)); exact HO523.out) hb); have n2_ := Aside0.mk (below_step (by repeat (first | (with_reducible first | exact HB.out | apply below_alloc | apply pw_below_drewN | apply below_drew1) | exact HB.out)) hb); clear HO520; clear HO523; clear HB; have HO520 := n0_; have HO523 := n1_; have HB := n2_; clear n0_ n1_ n2_; (try clear hb); (try clear hb2); (try clear hk); (try clear hi); obtain ⟨Ao35, co35, eo35⟩ := Kd.R_slice HO520.out; subst eo35; obtain ⟨Ao36, co36, eo36⟩ := Kd.R_slice HO523.out; subst eo36)))
        go_meet
        case rel => exact ⟨_, (true), (by first | rfl | (simp; done) | (simp [*]; done)), H', ⟨by have := HJ3.out; first | omega | exact Nat.le_refl _⟩, ⟨by (with_reducible repeat (first | apply Kd.R_alloc | apply Kd.R_drewN | apply Kd.R_drew)); exact Kd.R_mono HO520.out (fun _ hk => hk.2)⟩, ⟨by (with_reducible repeat (first | apply Kd.R_alloc | apply Kd.R_drewN | apply Kd.R_drew)); exact Kd.R_mono HO523.out (fun _ hk => hk.2)⟩, ⟨by repeat (first | (with_reducible first | exact HB.out | apply below_alloc | apply pw_below_drewN | apply below_drew1) | exact HB.out)⟩⟩
     ·rw [if_neg c19] at H
      have c19b0 : (t524.toList == t516.toList) = false := beq_eq_false_iff_ne.mpr c19
      have c19b1 : (t524.toList != t516.toList) = true := bne_iff_ne.mpr c19
      (first | rw [c19b0] | (simp only [i64_w, i32_w]; rw [c19b0]) | skip)
      have H' := Aside0.mk H
      clear H
      go_wp2_with (first | (go_at_call 9; (with_reducible refine (skel_Skeleton.calls kj3 a0 t524 _ A18.out (WG.keep HG.out (by repeat (first | (with_reducible first | exact HB.out | apply below_alloc | apply pw_below_drewN | apply below_drew1) | exact HB.out)))).mono ?_); rintro e w37 ⟨rfl, hb⟩; have n0_ := Aside0.mk (Kd.R_below (by (with_reducible repeat (first | apply Kd.R_alloc | apply Kd.R_drewN | apply Kd.R_drew)); exact HO520.out) hb); have n1_ := Aside0.mk (Kd.R_below (by (with_reducible repeat (first | apply Kd.R_alloc | apply Kd.R_drewN | apply Kd.R_drew)); exact HO523.out) hb); have n2_ := Aside0.mk (below_step (by repeat (first | (with_reducible first | exact HB.out | apply below_alloc | apply pw_below_drewN | apply below_drew1) | exact HB.out)) hb); clear HO520; clear HO523; clear HB; have HO520 := n0_; have HO523 := n1_; have HB := n2_; clear n0_ n1_ n2_; (try clear hb); (try clear hb2); (try clear hk); (try clear hi)))
      repeat (go_quiet (first | (go_at_call 9; (with_reducible refine (skel_Skeleton.calls kj3 a0 t524 _ A18.out (WG.keep HG.out (by repeat (first | (with_reducible first | exact HB.out | apply below_alloc | apply pw_below_drewN | apply below_drew1) | exact HB.out)))).mono ?_); rintro e w37 ⟨rfl, hb⟩; have n0_ := Aside0.mk (Kd.R_below (by (with_reducible repeat (first | apply Kd.R_alloc | apply Kd.R_drewN | apply Kd.R_drew)); exact HO520.out) hb); have n1_ := Aside0.mk (Kd.R_below (by (with_reducible repeat (first | apply Kd.R_alloc | apply Kd.R_drewN | apply Kd.R_drew)); exact HO523.out) hb); have n2_ := Aside0.mk (below_step (by repeat (first | (with_reducible first | exact HB.out | apply below_alloc | apply pw_below_drewN | apply below_drew1) | exact HB.out)) hb); clear HO520; clear HO523; clear HB; have HO520 := n0_; have HO523 := n1_; have HB := n2_; clear n0_ n1_ n2_; (try clear hb); (try clear hb2); (try clear hk); (try clear hi))); try go_wp2_with (first | (go_at_call 9; (with_reducible refine (skel_Skeleton.calls kj3 a0 t524 _ A18.out (WG.keep HG.out (by repeat (first | (with_reducible first | exact HB.out | apply below_alloc | apply pw_below_drewN | apply below_drew1) | exact HB.out)))).mono ?_); rintro e w37 ⟨rfl, hb⟩; have n0_ := Aside0.mk (Kd.R_below (by (with_reducible repeat (first | apply Kd.R_alloc | apply Kd.R_drewN | apply Kd.R_drew)); exact HO520.out) hb); have n1_ := Aside0.mk (Kd.R_below (by (with_reducible repeat (first | apply Kd.R_alloc | apply Kd.R_drewN | apply Kd.R_drew)); exact HO523.out) hb); have n2_ := Aside0.mk (below_step (by repeat (first | (with_reducible first | exact HB.out | apply below_alloc | apply pw_below_drewN | apply below_drew1) | exact HB.out)) hb); clear HO520; clear HO523; clear HB; have HO520 := n0_; have HO523 := n1_; have HB := n2_; clear n0_ n1_ n2_; (try clear hb); (try clear hb2); (try clear hk); (try clear hi))))
      go_meet
      case rel => exact ⟨_, (true), (by first | rfl | (simp; done) | (simp [*]; done)), H', ⟨by have := HJ3.out; first | omega | exact Nat.le_refl _⟩, ⟨by (with_reducible repeat (first | apply Kd.R_alloc | apply Kd.R_drewN | apply Kd.R_drew)); exact Kd.R_mono HO520.out (fun _ hk => hk.2)⟩, ⟨by (with_reducible repeat (first | apply Kd.R_alloc | apply Kd.R_drewN | apply Kd.R_drew)); exact Kd.R_mono HO523.out (fun _ hk => hk.2)⟩, ⟨by repeat (first | (with_reducible first | exact HB.out | apply below_alloc | apply pw_below_drewN | apply below_drew1) | exact HB.out)⟩⟩
    case rest =>
     clear HC13
     try clear c1
     try clear c2
     try clear p2
     try clear c5
     try clear c5b0
     try clear c5b1
     try clear c6
     try clear c19
     try clear c19b0
     try clear c19b1
     try clear c21
     try clear c21b0
     try clear c21b1
     try clear c21b2
     try clear c24
     try clear c24b0
     try clear c24b1
     try clear c24b2
     try clear p2
     obtain ⟨kq, x61_12, rfl, HA, HJ12, HO_9, HO_10, HB⟩ := hcut
     cases kq with
     | zero => exact absurd HA.out (by simp [portcullislaw08_SkelTells.j1])
     | succ kj12 =>
      have H := HA.out
      clear HA
      simp only [portcullislaw08_SkelTells.j1] at H
      by_cases c38 : x61_12 = true
      ·subst c38
       have H1 : (some false) = some r := by rw [if_pos rfl] at H; exact H
       clear H
       have H := H1
       clear H1
       obtain rfl := Option.some.inj H
       go_wp2
       repeat (go_quiet (fail); try go_wp2)
       go_ret
       exact ⟨by first | rfl | (simp [errW_none, errW_some] <;> rfl) | (simp [*, errW_none, errW_some] <;> rfl), by repeat (first | (with_reducible first | exact HB.out | apply below_alloc | apply pw_below_drewN | apply below_drew1) | exact HB.out)⟩
      ·replace c38 := Bool.eq_false_iff.mpr c38
       subst c38
       have H1 : (portcullislaw08_SkelTells.l0 kj12 a1 a2 t518 t521 0) = some r := by rw [if_neg (show ¬ (false = true) by decide)] at H; exact H
       clear H
       have H := H1
       clear H1
       have H' := Aside0.mk H
       clear H
       go_wp2
       repeat (go_quiet (fail); try go_wp2)
       go_loopg [11] kj12 (fun kq v11 w' => ∃ (x11_3 : Int), v11 = .int .i64 x11_3 ∧ Aside0 (portcullislaw08_SkelTells.l0 kq a1 a2 t518 t521 x11_3 = some r) ∧ Aside0 (kq ≤ kj12) ∧ Aside0 (Kd.R (Kd.int .u8) 5 w' w.heap.size (fun k_ => some k_ ≠ (v522 : Value).ownBlock) v519 t518) ∧ Aside0 (Kd.R (Kd.int .u8) 5 w' w.heap.size (fun k_ => some k_ ≠ (v519 : Value).ownBlock) v522 t521) ∧ Aside0 (Below w.heap.size w w'))
       case atStart => exact ⟨(0), (by first | rfl | (simp; done) | (simp [*]; done)), H', ⟨Nat.le_refl _⟩, ⟨by (with_reducible repeat (first | apply Kd.R_alloc | apply Kd.R_drewN | apply Kd.R_drew)); exact HO_9.out⟩, ⟨by (with_reducible repeat (first | apply Kd.R_alloc | apply Kd.R_drewN | apply Kd.R_drew)); exact HO_10.out⟩, ⟨by repeat (first | (with_reducible first | exact HB.out | apply below_alloc | apply pw_below_drewN | apply below_drew1) | exact HB.out)⟩⟩
       case round =>
        clear H'
        try clear c1
        try clear c2
        try clear p2
        try clear c3
        try clear c5
        try clear c5b0
        try clear c5b1
        try clear c6
        try clear c19
        try clear c19b0
        try clear c19b1
        try clear c21
        try clear c21b0
        try clear c21b1
        try clear c21b2
        try clear c24
        try clear c24b0
        try clear c24b1
        try clear c24b2
        try clear c38
        try clear p2
        obtain ⟨x11_3, rfl, HA, HK3, HO_9, HO_10, HB⟩ := hrel
        cases gk with
        | zero => exact absurd HA.out (by simp [portcullislaw08_SkelTells.l0])
        | succ k3 =>
         have H := HA.out
         clear HA
         simp only [portcullislaw08_SkelTells.l0] at H
         by_cases c39 : x11_3 < (t518.length : Int)
         ·rw [if_pos c39] at H
          have c39b0 : decide (x11_3 < (t518.length : Int)) = true := decide_eq_true c39
          clear c39
          by_cases c40 : 0 ≤ x11_3
          ·rw [if_pos c40] at H
           have c40b0 : decide (0 ≤ x11_3) = true := decide_eq_true c40
           clear c40
           by_cases c41 : x11_3 < (t521.length : Int)
           ·rw [if_pos c41] at H
            have c41b0 : decide (x11_3 < (t521.length : Int)) = true := decide_eq_true c41
            clear c41
            by_cases c42 : (rd t518 x11_3) = (rd t521 x11_3)
            ·rw [if_pos c42] at H
             have c42b0 : ((rd t518 x11_3) == (rd t521 x11_3)) = true := beq_iff_eq.mpr c42
             have c42b1 : ((rd t518 x11_3) != (rd t521 x11_3)) = false := bne_eq_false_iff_eq.mpr c42
             clear c42
             have H' := Aside0.mk H
             clear H
             obtain ⟨Ao43, co43, eo43⟩ := Kd.R_slice HO_9.out
             subst eo43
             have p528 : 0 ≤ (x11_3 : Int) := of_decide_eq_true (by first | (with_reducible assumption) | assumption)
             have q528 : x11_3 < (t518.length : Int) := of_decide_eq_true (by first | (with_reducible assumption) | assumption)
             obtain ⟨ad528, e528, hx528_0⟩ := Kd.at_int (Kd.R_reads' HO_9.out).2.2 x11_3 p528 q528
             cases e528
             replace p528 := eq_true p528
             replace q528 := eq_true q528
             obtain ⟨Ao44, co44, eo44⟩ := Kd.R_slice HO_10.out
             subst eo44
             have p529 : 0 ≤ (x11_3 : Int) := of_decide_eq_true (by first | (with_reducible assumption) | assumption)
             have q529 : x11_3 < (t521.length : Int) := of_decide_eq_true (by first | (with_reducible assumption) | assumption)
             obtain ⟨ad529, e529, hx529_0⟩ := Kd.at_int (Kd.R_reads' HO_10.out).2.2 x11_3 p529 q529
             cases e529
             replace p529 := eq_true p529
             replace q529 := eq_true q529
             go_wp2
             repeat (go_quiet (fail); try go_wp2)
             go_roundg k3
             case measure => have := HJ3.out; have := HJ12.out; have := HK3.out; omega
             case rel => exact ⟨(wrap64 (x11_3 + 1)), (by first | rfl | (simp; done) | (simp [*]; done)), H', ⟨by have := HJ3.out; have := HJ12.out; have := HK3.out; omega⟩, ⟨by (with_reducible repeat (first | apply Kd.R_alloc | apply Kd.R_drewN | apply Kd.R_drew)); exact HO_9.out⟩, ⟨by (with_reducible repeat (first | apply Kd.R_alloc | apply Kd.R_drewN | apply Kd.R_drew)); exact HO_10.out⟩, ⟨by repeat (first | (with_reducible first | exact HB.out | apply below_alloc | apply pw_below_drewN | apply below_drew1) | exact HB.out)⟩⟩
            ·rw [if_neg c42] at H
             have c42b0 : ((rd t518 x11_3) == (rd t521 x11_3)) = false := beq_eq_false_iff_ne.mpr c42
             have c42b1 : ((rd t518 x11_3) != (rd t521 x11_3)) = true := bne_iff_ne.mpr c42
             obtain rfl := Option.some.inj H
             obtain ⟨Ao45, co45, eo45⟩ := Kd.R_slice HO_9.out
             subst eo45
             have p528 : 0 ≤ (x11_3 : Int) := of_decide_eq_true (by first | (with_reducible assumption) | assumption)
             have q528 : x11_3 < (t518.length : Int) := of_decide_eq_true (by first | (with_reducible assumption) | assumption)
             obtain ⟨ad528, e528, hx528_0⟩ := Kd.at_int (Kd.R_reads' HO_9.out).2.2 x11_3 p528 q528
             cases e528
             replace p528 := eq_true p528
             replace q528 := eq_true q528
             obtain ⟨Ao46, co46, eo46⟩ := Kd.R_slice HO_10.out
             subst eo46
             have p529 : 0 ≤ (x11_3 : Int) := of_decide_eq_true (by first | (with_reducible assumption) | assumption)
             have q529 : x11_3 < (t521.length : Int) := of_decide_eq_true (by first | (with_reducible assumption) | assumption)
             obtain ⟨ad529, e529, hx529_0⟩ := Kd.at_int (Kd.R_reads' HO_10.out).2.2 x11_3 p529 q529
             cases e529
             replace p529 := eq_true p529
             replace q529 := eq_true q529
             go_wp2
             repeat (go_quiet (fail); try go_wp2)
             go_ret
             exact ⟨by first | rfl | (simp [errW_none, errW_some] <;> rfl) | (simp [*, errW_none, errW_some] <;> rfl), by repeat (first | (with_reducible first | exact HB.out | apply below_alloc | apply pw_below_drewN | apply below_drew1) | exact HB.out)⟩
           ·rw [if_neg c41] at H
            exact absurd H (by simp)
          ·rw [if_neg c40] at H
           exact absurd H (by simp)
         ·rw [if_neg c39] at H
          have c39b0 : decide (x11_3 < (t518.length : Int)) = false := decide_eq_false c39
          clear c39
          replace H := Option.bind_eq_some_iff.mp H
          obtain ⟨t530, A470, H⟩ := H
          replace H : (if (wrap64 (a2)) < (t530.length : Int) then (if 0 ≤ a2 then (if a2 < (t530.length : Int) then (portcullislaw08_SkelTells.j3 k3 a1 a2 t530 (rdOf ByteArray.empty t530 a2)) else (none)) else (none)) else (portcullislaw08_SkelTells.j3 k3 a1 a2 t530 (⟨#[]⟩ : ByteArray))) = some r := H
          have A47 := Aside0.mk A470
          clear A470
          have HC48 := Aside0.mk H
          clear H
          obtain ⟨Ao49, co49, eo49⟩ := Kd.R_slice HO_9.out
          subst eo49
          go_upto_if 82 with (first | (go_at_call 17; (with_reducible refine (portcullisref08_Names.calls  t530 _ A47.out).mono ?_); rintro e w50 ⟨v531, rfl, ho0, hb⟩; have n0_ := Aside0.mk (Kd.R_below (by (with_reducible repeat (first | apply Kd.R_alloc | apply Kd.R_drewN | apply Kd.R_drew)); exact HO_9.out) hb); have n1_ := Aside0.mk (Kd.R_below (by (with_reducible repeat (first | apply Kd.R_alloc | apply Kd.R_drewN | apply Kd.R_drew)); exact HO_10.out) hb); have n2_ := Aside0.mk (Kd.R_lower ho0 (below_size (by repeat (first | (with_reducible first | exact HB.out | apply below_alloc | apply pw_below_drewN | apply below_drew1) | exact HB.out)))); have n3_ := Aside0.mk (below_step (by repeat (first | (with_reducible first | exact HB.out | apply below_alloc | apply pw_below_drewN | apply below_drew1) | exact HB.out)) hb); clear HO_9; clear HO_10; clear HB; have HO_9 := n0_; have HO_10 := n1_; have HO532 := n2_; have HB := n3_; clear n0_ n1_ n2_ n3_; (try clear hb); (try clear hb2); (try clear hk); (try clear hi); (try clear ho0); obtain ⟨Ao51, co51, eo51⟩ := Kd.R_slice HO532.out; subst eo51))
          repeat (go_quiet (first | (go_at_call 17; (with_reducible refine (portcullisref08_Names.calls  t530 _ A47.out).mono ?_); rintro e w50 ⟨v531, rfl, ho0, hb⟩; have n0_ := Aside0.mk (Kd.R_below (by (with_reducible repeat (first | apply Kd.R_alloc | apply Kd.R_drewN | apply Kd.R_drew)); exact HO_9.out) hb); have n1_ := Aside0.mk (Kd.R_below (by (with_reducible repeat (first | apply Kd.R_alloc | apply Kd.R_drewN | apply Kd.R_drew)); exact HO_10.out) hb); have n2_ := Aside0.mk (Kd.R_lower ho0 (below_size (by repeat (first | (with_reducible first | exact HB.out | apply below_alloc | apply pw_below_drewN | apply below_drew1) | exact HB.out)))); have n3_ := Aside0.mk (below_step (by repeat (first | (with_reducible first | exact HB.out | apply below_alloc | apply pw_below_drewN | apply below_drew1) | exact HB.out)) hb); clear HO_9; clear HO_10; clear HB; have HO_9 := n0_; have HO_10 := n1_; have HO532 := n2_; have HB := n3_; clear n0_ n1_ n2_ n3_; (try clear hb); (try clear hb2); (try clear hk); (try clear hi); (try clear ho0); obtain ⟨Ao51, co51, eo51⟩ := Kd.R_slice HO532.out; subst eo51)); go_upto_if 82 with (first | (go_at_call 17; (with_reducible refine (portcullisref08_Names.calls  t530 _ A47.out).mono ?_); rintro e w50 ⟨v531, rfl, ho0, hb⟩; have n0_ := Aside0.mk (Kd.R_below (by (with_reducible repeat (first | apply Kd.R_alloc | apply Kd.R_drewN | apply Kd.R_drew)); exact HO_9.out) hb); have n1_ := Aside0.mk (Kd.R_below (by (with_reducible repeat (first | apply Kd.R_alloc | apply Kd.R_drewN | apply Kd.R_drew)); exact HO_10.out) hb); have n2_ := Aside0.mk (Kd.R_lower ho0 (below_size (by repeat (first | (with_reducible first | exact HB.out | apply below_alloc | apply pw_below_drewN | apply below_drew1) | exact HB.out)))); have n3_ := Aside0.mk (below_step (by repeat (first | (with_reducible first | exact HB.out | apply below_alloc | apply pw_below_drewN | apply below_drew1) | exact HB.out)) hb); clear HO_9; clear HO_10; clear HB; have HO_9 := n0_; have HO_10 := n1_; have HO532 := n2_; have HB := n3_; clear n0_ n1_ n2_ n3_; (try clear hb); (try clear hb2); (try clear hk); (try clear hi); (try clear ho0); obtain ⟨Ao51, co51, eo51⟩ := Kd.R_slice HO532.out; subst eo51)))
          (try simp only [Act.put, List.setIfInBounds_toArray, List.set_cons_zero, List.set_cons_succ])
          go_cut [13] (fun v13 wc => ∃ (kq : Nat) (x13_47 : ByteArray), v13 = .string x13_47 ∧ Aside0 (portcullislaw08_SkelTells.j3 kq a1 a2 t530 x13_47 = some r) ∧ Aside0 (kq ≤ k3) ∧ Aside0 (Kd.R Kd.string 9 wc w.heap.size (fun _ => True) (.slice Ao51 t530.length co51) t530) ∧ Aside0 (Below w.heap.size w wc))
          case first =>
           have H := HC48.out
           clear HC48
           by_cases c52 : (wrap64 (a2)) < (t530.length : Int)
           ·rw [if_pos c52] at H
            have c52b0 : decide ((wrap64 (a2)) < (t530.length : Int)) = true := decide_eq_true c52
            clear c52
            (first | rw [c52b0] | (simp only [i64_w, i32_w]; rw [c52b0]) | skip)
            by_cases c53 : 0 ≤ a2
            ·rw [if_pos c53] at H
             have c53b0 : decide (0 ≤ a2) = true := decide_eq_true c53
             clear c53
             by_cases c54 : a2 < (t530.length : Int)
             ·rw [if_pos c54] at H
              have c54b0 : decide (a2 < (t530.length : Int)) = true := decide_eq_true c54
              clear c54
              have H' := Aside0.mk H
              clear H
              have p533 : 0 ≤ (a2 : Int) := of_decide_eq_true (by first | (with_reducible assumption) | assumption)
              have q533 : a2 < (t530.length : Int) := of_decide_eq_true (by first | (with_reducible assumption) | assumption)
              obtain ⟨ad533, e533, hx533_0⟩ := Kd.at_string (Kd.R_reads' HO532.out).2.2 a2 p533 q533
              cases e533
              replace p533 := eq_true p533
              replace q533 := eq_true q533
              go_wp2
              repeat (go_quiet (fail); try go_wp2)
              go_meet
              case rel => exact ⟨_, (rdOf ByteArray.empty t530 a2), (by first | rfl | (simp; done) | (simp [*]; done)), H', ⟨by have := HJ3.out; have := HJ12.out; have := HK3.out; first | omega | exact Nat.le_refl _⟩, ⟨by (with_reducible repeat (first | apply Kd.R_alloc | apply Kd.R_drewN | apply Kd.R_drew)); exact HO532.out⟩, ⟨by repeat (first | (with_reducible first | exact HB.out | apply below_alloc | apply pw_below_drewN | apply below_drew1) | exact HB.out)⟩⟩
             ·rw [if_neg c54] at H
              exact absurd H (by simp)
            ·rw [if_neg c53] at H
             exact absurd H (by simp)
           ·rw [if_neg c52] at H
            have c52b0 : decide ((wrap64 (a2)) < (t530.length : Int)) = false := decide_eq_false c52
            clear c52
            (first | rw [c52b0] | (simp only [i64_w, i32_w]; rw [c52b0]) | skip)
            have H' := Aside0.mk H
            clear H
            go_wp2
            repeat (go_quiet (fail); try go_wp2)
            go_meet
            case rel => exact ⟨_, ((⟨#[]⟩ : ByteArray)), (by first | rfl | (simp; done) | (simp [*]; done)), H', ⟨by have := HJ3.out; have := HJ12.out; have := HK3.out; first | omega | exact Nat.le_refl _⟩, ⟨by (with_reducible repeat (first | apply Kd.R_alloc | apply Kd.R_drewN | apply Kd.R_drew)); exact HO532.out⟩, ⟨by repeat (first | (with_reducible first | exact HB.out | apply below_alloc | apply pw_below_drewN | apply below_drew1) | exact HB.out)⟩⟩
          case rest =>
           clear HC48
           try clear c1
           try clear c2
           try clear p2
           try clear c3
           try clear c4
           try clear c5
           try clear c5b0
           try clear c5b1
           try clear p5
           try clear q5
           try clear hx5
           try clear c6
           try clear p6
           try clear c19
           try clear c19b0
           try clear c19b1
           try clear c21
           try clear c21b0
           try clear c21b1
           try clear c21b2
           try clear c24
           try clear c24b0
           try clear c24b1
           try clear c24b2
           try clear c38
           try clear c39
           try clear c39b0
           try clear c40
           try clear c40b0
           try clear c41
           try clear c41b0
           try clear c42
           try clear c42b0
           try clear c42b1
           try clear c52
           try clear c52b0
           try clear p52
           try clear q52
           try clear hx52
           try clear c53
           try clear c53b0
           try clear p53
           try clear q53
           try clear hx53
           try clear c54
           try clear c54b0
           try clear hx528_0
           try clear hx529_0
           try clear hx533_0
           try clear p2
           try clear p528
           try clear p529
           try clear p533
           try clear q528
           try clear q529
           try clear q533
           obtain ⟨kq, x13_47, rfl, HA, HJ47, HO_12, HB⟩ := hcut
           cases kq with
           | zero => exact absurd HA.out (by simp [portcullislaw08_SkelTells.j3])
           | succ kj47 =>
            have H := HA.out
            clear HA
            simp only [portcullislaw08_SkelTells.j3] at H
            replace H := Option.bind_eq_some_iff.mp H
            obtain ⟨⟨t534, t535⟩, A550, H⟩ := H
            replace H : (portcullislaw08_SkelTells.l1 kj47 a1 a2 t530 x13_47 t534 t535 (-1) 0) = some r := H
            have A55 := Aside0.mk A550
            clear A550
            have H' := Aside0.mk H
            clear H
            go_wp2_with (first | (go_at_call 18; (with_reducible refine (skel_Of.calls a1 t534 t535 _ A55.out).mono ?_); rintro e w56 ⟨rfl, hb⟩; have n0_ := Aside0.mk (Kd.R_below (by (with_reducible repeat (first | apply Kd.R_alloc | apply Kd.R_drewN | apply Kd.R_drew)); exact HO_12.out) hb); have n1_ := Aside0.mk (below_step (by repeat (first | (with_reducible first | exact HB.out | apply below_alloc | apply pw_below_drewN | apply below_drew1) | exact HB.out)) hb); clear HO_12; clear HB; have HO_12 := n0_; have HB := n1_; clear n0_ n1_; (try clear hb); (try clear hb2); (try clear hk); (try clear hi)))
            repeat (go_quiet (first | (go_at_call 18; (with_reducible refine (skel_Of.calls a1 t534 t535 _ A55.out).mono ?_); rintro e w56 ⟨rfl, hb⟩; have n0_ := Aside0.mk (Kd.R_below (by (with_reducible repeat (first | apply Kd.R_alloc | apply Kd.R_drewN | apply Kd.R_drew)); exact HO_12.out) hb); have n1_ := Aside0.mk (below_step (by repeat (first | (with_reducible first | exact HB.out | apply below_alloc | apply pw_below_drewN | apply below_drew1) | exact HB.out)) hb); clear HO_12; clear HB; have HO_12 := n0_; have HB := n1_; clear n0_ n1_; (try clear hb); (try clear hb2); (try clear hk); (try clear hi))); try go_wp2_with (first | (go_at_call 18; (with_reducible refine (skel_Of.calls a1 t534 t535 _ A55.out).mono ?_); rintro e w56 ⟨rfl, hb⟩; have n0_ := Aside0.mk (Kd.R_below (by (with_reducible repeat (first | apply Kd.R_alloc | apply Kd.R_drewN | apply Kd.R_drew)); exact HO_12.out) hb); have n1_ := Aside0.mk (below_step (by repeat (first | (with_reducible first | exact HB.out | apply below_alloc | apply pw_below_drewN | apply below_drew1) | exact HB.out)) hb); clear HO_12; clear HB; have HO_12 := n0_; have HB := n1_; clear n0_ n1_; (try clear hb); (try clear hb2); (try clear hk); (try clear hi))))
            go_loopg [16, 17] kj47 (fun kq v16 v17 w' => ∃ (x16_5 : Int) (x17_5 : Int), v16 = .int .i64 x16_5 ∧ v17 = .int .i64 x17_5 ∧ Aside0 (portcullislaw08_SkelTells.l1 kq a1 a2 t530 x13_47 t534 t535 x16_5 x17_5 = some r) ∧ Aside0 (kq ≤ kj47) ∧ Aside0 (Kd.R Kd.string 9 w' w.heap.size (fun _ => True) (.slice Ao51 t530.length co51) t530) ∧ Aside0 (Below w.heap.size w w'))
            case atStart => exact ⟨((-1)), (0), (by first | rfl | (simp; done) | (simp [*]; done)), (by first | rfl | (simp; done) | (simp [*]; done)), H', ⟨Nat.le_refl _⟩, ⟨by (with_reducible repeat (first | apply Kd.R_alloc | apply Kd.R_drewN | apply Kd.R_drew)); exact HO_12.out⟩, ⟨by repeat (first | (with_reducible first | exact HB.out | apply below_alloc | apply pw_below_drewN | apply below_drew1) | exact HB.out)⟩⟩
            case round =>
             clear H'
             try clear c1
             try clear c2
             try clear p2
             try clear c3
             try clear c4
             try clear c5
             try clear c5b0
             try clear c5b1
             try clear p5
             try clear q5
             try clear hx5
             try clear c6
             try clear p6
             try clear c19
             try clear c19b0
             try clear c19b1
             try clear c21
             try clear c21b0
             try clear c21b1
             try clear c21b2
             try clear c24
             try clear c24b0
             try clear c24b1
             try clear c24b2
             try clear c38
             try clear c39
             try clear c39b0
             try clear c40
             try clear c40b0
             try clear c41
             try clear c41b0
             try clear c42
             try clear c42b0
             try clear c42b1
             try clear c52
             try clear c52b0
             try clear p52
             try clear q52
             try clear hx52
             try clear c53
             try clear c53b0
             try clear p53
             try clear q53
             try clear hx53
             try clear c54
             try clear c54b0
             try clear hx528_0
             try clear hx529_0
             try clear hx533_0
             try clear p2
             try clear p5
             try clear p52
             try clear p528
             try clear p529
             try clear p53
             try clear p533
             try clear p6
             try clear q5
             try clear q52
             try clear q528
             try clear q529
             try clear q53
             try clear q533
             obtain ⟨x16_5, x17_5, rfl, rfl, HA, HK5, HO_12, HB⟩ := hrel
             cases gk with
             | zero => exact absurd HA.out (by simp [portcullislaw08_SkelTells.l1])
             | succ k5 =>
              have H := HA.out
              clear HA
              simp only [portcullislaw08_SkelTells.l1] at H
              by_cases c57 : x17_5 < (t530.length : Int)
              ·rw [if_pos c57] at H
               have c57b0 : decide (x17_5 < (t530.length : Int)) = true := decide_eq_true c57
               clear c57
               by_cases c58 : 0 ≤ x17_5
               ·rw [if_pos c58] at H
                have c58b0 : decide (0 ≤ x17_5) = true := decide_eq_true c58
                clear c58
                by_cases c59 : (rdOf ByteArray.empty t530 x17_5).toList = a1.toList
                ·rw [if_pos c59] at H
                 have c59b0 : ((rdOf ByteArray.empty t530 x17_5).toList == a1.toList) = true := beq_iff_eq.mpr c59
                 have c59b1 : ((rdOf ByteArray.empty t530 x17_5).toList != a1.toList) = false := bne_eq_false_iff_eq.mpr c59
                 clear c59
                 have H' := Aside0.mk H
                 clear H
                 have p536 : 0 ≤ (x17_5 : Int) := of_decide_eq_true (by first | (with_reducible assumption) | assumption)
                 have q536 : x17_5 < (t530.length : Int) := of_decide_eq_true (by first | (with_reducible assumption) | assumption)
                 obtain ⟨ad536, e536, hx536_0⟩ := Kd.at_string (Kd.R_reads' HO_12.out).2.2 x17_5 p536 q536
                 cases e536
                 replace p536 := eq_true p536
                 replace q536 := eq_true q536
                 go_wp2
                 repeat (go_quiet (fail); try go_wp2)
                 go_roundg k5
                 case measure => have := HJ3.out; have := HJ12.out; have := HK3.out; have := HJ47.out; have := HK5.out; omega
                 case rel => exact ⟨(x17_5), (wrap64 (x17_5 + 1)), (by first | rfl | (simp; done) | (simp [*]; done)), (by first | rfl | (simp; done) | (simp [*]; done)), H', ⟨by have := HJ3.out; have := HJ12.out; have := HK3.out; have := HJ47.out; have := HK5.out; omega⟩, ⟨by (with_reducible repeat (first | apply Kd.R_alloc | apply Kd.R_drewN | apply Kd.R_drew)); exact HO_12.out⟩, ⟨by repeat (first | (with_reducible first | exact HB.out | apply below_alloc | apply pw_below_drewN | apply below_drew1) | exact HB.out)⟩⟩
                ·rw [if_neg c59] at H
                 have c59b0 : ((rdOf ByteArray.empty t530 x17_5).toList == a1.toList) = false := beq_eq_false_iff_ne.mpr c59
                 have c59b1 : ((rdOf ByteArray.empty t530 x17_5).toList != a1.toList) = true := bne_iff_ne.mpr c59
                 have H' := Aside0.mk H
                 clear H
                 have p536 : 0 ≤ (x17_5 : Int) := of_decide_eq_true (by first | (with_reducible assumption) | assumption)
                 have q536 : x17_5 < (t530.length : Int) := of_decide_eq_true (by first | (with_reducible assumption) | assumption)
                 obtain ⟨ad536, e536, hx536_0⟩ := Kd.at_string (Kd.R_reads' HO_12.out).2.2 x17_5 p536 q536
                 cases e536
                 replace p536 := eq_true p536
                 replace q536 := eq_true q536
                 go_wp2
                 repeat (go_quiet (fail); try go_wp2)
                 go_roundg k5
                 case measure => have := HJ3.out; have := HJ12.out; have := HK3.out; have := HJ47.out; have := HK5.out; omega
                 case rel => exact ⟨(x16_5), (wrap64 (x17_5 + 1)), (by first | rfl | (simp; done) | (simp [*]; done)), (by first | rfl | (simp; done) | (simp [*]; done)), H', ⟨by have := HJ3.out; have := HJ12.out; have := HK3.out; have := HJ47.out; have := HK5.out; omega⟩, ⟨by (with_reducible repeat (first | apply Kd.R_alloc | apply Kd.R_drewN | apply Kd.R_drew)); exact HO_12.out⟩, ⟨by repeat (first | (with_reducible first | exact HB.out | apply below_alloc | apply pw_below_drewN | apply below_drew1) | exact HB.out)⟩⟩
               ·rw [if_neg c58] at H
                exact absurd H (by simp)
              ·rw [if_neg c57] at H
               have c57b0 : decide (x17_5 < (t530.length : Int)) = false := decide_eq_false c57
               clear c57
               replace H := Option.bind_eq_some_iff.mp H
               obtain ⟨t537, A600, H⟩ := H
               replace H : (if t537.toList = x13_47.toList then (if ((t535 == 0) == (decide (x16_5 ≥ 0))) = true then (if x16_5 < 0 then (if t534 = 0 then (if t535 = 5 then ((portcullislaw08_works.f k5).bind fun t538 => (some t538)) else (if x16_5 ≥ 0 then (if (wrap64 (t534)) = x16_5 then ((portcullislaw08_works.f k5).bind fun t539 => (some t539)) else (some false)) else (some false))) else (if x16_5 ≥ 0 then (if (wrap64 (t534)) = x16_5 then ((portcullislaw08_works.f k5).bind fun t540 => (some t540)) else (some false)) else (some false))) else (if x16_5 ≥ 0 then (if (wrap64 (t534)) = x16_5 then ((portcullislaw08_works.f k5).bind fun t541 => (some t541)) else (some false)) else (some false))) else (some false)) else (some false)) = some r := H
               have A60 := Aside0.mk A600
               clear A600
               by_cases c61 : t537.toList = x13_47.toList
               ·rw [if_pos c61] at H
                have c61b0 : (t537.toList == x13_47.toList) = true := beq_iff_eq.mpr c61
                have c61b1 : (t537.toList != x13_47.toList) = false := bne_eq_false_iff_eq.mpr c61
                clear c61
                by_cases c62 : ((t535 == 0) == (decide (x16_5 ≥ 0))) = true
                ·rw [if_pos c62] at H
                 have c62b0 : ((t535 == 0) == (decide (x16_5 ≥ 0))) = true := c62
                 (try (have c62b1 : decide ((t535 == 0) = (decide (x16_5 ≥ 0))) = true := by simpa using c62))
                 (try (have c62b2 : ((t535 == 0) == (decide (x16_5 ≥ 0))) = true := by simpa using c62))
                 clear c62
                 by_cases c63 : x16_5 < 0
                 ·rw [if_pos c63] at H
                  have c63b0 : decide (x16_5 < 0) = true := decide_eq_true c63
                  clear c63
                  by_cases c64 : t534 = 0
                  ·rw [if_pos c64] at H
                   have c64b0 : (t534 == 0) = true := beq_iff_eq.mpr c64
                   have c64b1 : (t534 != 0) = false := bne_eq_false_iff_eq.mpr c64
                   clear c64
                   by_cases c65 : t535 = 5
                   ·rw [if_pos c65] at H
                    have c65b0 : (t535 == 5) = true := beq_iff_eq.mpr c65
                    have c65b1 : (t535 != 5) = false := bne_eq_false_iff_eq.mpr c65
                    clear c65
                    replace H := Option.bind_eq_some_iff.mp H
                    obtain ⟨t538, A660, H⟩ := H
                    replace H : (some t538) = some r := H
                    have A66 := Aside0.mk A660
                    clear A660
                    obtain rfl := Option.some.inj H
                    go_wp2_with (first | (go_at_call 19; (with_reducible refine (skel_Name.calls a2 t537 _ A60.out).mono ?_); rintro e w67 ⟨rfl, hb⟩; have n0_ := Aside0.mk (Kd.R_below (by (with_reducible repeat (first | apply Kd.R_alloc | apply Kd.R_drewN | apply Kd.R_drew)); exact HO_12.out) hb); have n1_ := Aside0.mk (below_step (by repeat (first | (with_reducible first | exact HB.out | apply below_alloc | apply pw_below_drewN | apply below_drew1) | exact HB.out)) hb); clear HO_12; clear HB; have HO_12 := n0_; have HB := n1_; clear n0_ n1_; (try clear hb); (try clear hb2); (try clear hk); (try clear hi)) | (go_at_call 8; (with_reducible refine (portcullislaw08_works.calls k5  t538 _ A66.out (WG.keep HG.out (by repeat (first | (with_reducible first | exact HB.out | apply below_alloc | apply pw_below_drewN | apply below_drew1) | exact HB.out)))).mono ?_); rintro e w68 ⟨rfl, hb⟩; have n0_ := Aside0.mk (Kd.R_below (by (with_reducible repeat (first | apply Kd.R_alloc | apply Kd.R_drewN | apply Kd.R_drew)); exact HO_12.out) hb); have n1_ := Aside0.mk (below_step (by repeat (first | (with_reducible first | exact HB.out | apply below_alloc | apply pw_below_drewN | apply below_drew1) | exact HB.out)) hb); clear HO_12; clear HB; have HO_12 := n0_; have HB := n1_; clear n0_ n1_; (try clear hb); (try clear hb2); (try clear hk); (try clear hi)))
                    repeat (go_quiet (first | (go_at_call 19; (with_reducible refine (skel_Name.calls a2 t537 _ A60.out).mono ?_); rintro e w67 ⟨rfl, hb⟩; have n0_ := Aside0.mk (Kd.R_below (by (with_reducible repeat (first | apply Kd.R_alloc | apply Kd.R_drewN | apply Kd.R_drew)); exact HO_12.out) hb); have n1_ := Aside0.mk (below_step (by repeat (first | (with_reducible first | exact HB.out | apply below_alloc | apply pw_below_drewN | apply below_drew1) | exact HB.out)) hb); clear HO_12; clear HB; have HO_12 := n0_; have HB := n1_; clear n0_ n1_; (try clear hb); (try clear hb2); (try clear hk); (try clear hi)) | (go_at_call 8; (with_reducible refine (portcullislaw08_works.calls k5  t538 _ A66.out (WG.keep HG.out (by repeat (first | (with_reducible first | exact HB.out | apply below_alloc | apply pw_below_drewN | apply below_drew1) | exact HB.out)))).mono ?_); rintro e w68 ⟨rfl, hb⟩; have n0_ := Aside0.mk (Kd.R_below (by (with_reducible repeat (first | apply Kd.R_alloc | apply Kd.R_drewN | apply Kd.R_drew)); exact HO_12.out) hb); have n1_ := Aside0.mk (below_step (by repeat (first | (with_reducible first | exact HB.out | apply below_alloc | apply pw_below_drewN | apply below_drew1) | exact HB.out)) hb); clear HO_12; clear HB; have HO_12 := n0_; have HB := n1_; clear n0_ n1_; (try clear hb); (try clear hb2); (try clear hk); (try clear hi))); try go_wp2_with (first | (go_at_call 19; (with_reducible refine (skel_Name.calls a2 t537 _ A60.out).mono ?_); rintro e w67 ⟨rfl, hb⟩; have n0_ := Aside0.mk (Kd.R_below (by (with_reducible repeat (first | apply Kd.R_alloc | apply Kd.R_drewN | apply Kd.R_drew)); exact HO_12.out) hb); have n1_ := Aside0.mk (below_step (by repeat (first | (with_reducible first | exact HB.out | apply below_alloc | apply pw_below_drewN | apply below_drew1) | exact HB.out)) hb); clear HO_12; clear HB; have HO_12 := n0_; have HB := n1_; clear n0_ n1_; (try clear hb); (try clear hb2); (try clear hk); (try clear hi)) | (go_at_call 8; (with_reducible refine (portcullislaw08_works.calls k5  t538 _ A66.out (WG.keep HG.out (by repeat (first | (with_reducible first | exact HB.out | apply below_alloc | apply pw_below_drewN | apply below_drew1) | exact HB.out)))).mono ?_); rintro e w68 ⟨rfl, hb⟩; have n0_ := Aside0.mk (Kd.R_below (by (with_reducible repeat (first | apply Kd.R_alloc | apply Kd.R_drewN | apply Kd.R_drew)); exact HO_12.out) hb); have n1_ := Aside0.mk (below_step (by repeat (first | (with_reducible first | exact HB.out | apply below_alloc | apply pw_below_drewN | apply below_drew1) | exact HB.out)) hb); clear HO_12; clear HB; have HO_12 := n0_; have HB := n1_; clear n0_ n1_; (try clear hb); (try clear hb2); (try clear hk); (try clear hi))))
                    go_ret
                    exact ⟨by first | rfl | (simp [errW_none, errW_some] <;> rfl) | (simp [*, errW_none, errW_some] <;> rfl), by repeat (first | (with_reducible first | exact HB.out | apply below_alloc | apply pw_below_drewN | apply below_drew1) | exact HB.out)⟩
                   ·rw [if_neg c65] at H
                    have c65b0 : (t535 == 5) = false := beq_eq_false_iff_ne.mpr c65
                    have c65b1 : (t535 != 5) = true := bne_iff_ne.mpr c65
                    by_cases c69 : x16_5 ≥ 0
                    ·rw [if_pos c69] at H
                     have c69b0 : decide (0 ≤ x16_5) = true := decide_eq_true c69; have c69x : (t535 == 0) = true := (by simpa [c69b0] using c62b0)
                     clear c69
                     by_cases c70 : (wrap64 (t534)) = x16_5
                     ·rw [if_pos c70] at H
                      have c70b0 : ((wrap64 (t534)) == x16_5) = true := beq_iff_eq.mpr c70
                      have c70b1 : ((wrap64 (t534)) != x16_5) = false := bne_eq_false_iff_eq.mpr c70
                      clear c70
                      replace H := Option.bind_eq_some_iff.mp H
                      obtain ⟨t539, A710, H⟩ := H
                      replace H : (some t539) = some r := H
                      have A71 := Aside0.mk A710
                      clear A710
                      obtain rfl := Option.some.inj H
                      go_wp2_with (first | (go_at_call 19; (with_reducible refine (skel_Name.calls a2 t537 _ A60.out).mono ?_); rintro e w72 ⟨rfl, hb⟩; have n0_ := Aside0.mk (Kd.R_below (by (with_reducible repeat (first | apply Kd.R_alloc | apply Kd.R_drewN | apply Kd.R_drew)); exact HO_12.out) hb); have n1_ := Aside0.mk (below_step (by repeat (first | (with_reducible first | exact HB.out | apply below_alloc | apply pw_below_drewN | apply below_drew1) | exact HB.out)) hb); clear HO_12; clear HB; have HO_12 := n0_; have HB := n1_; clear n0_ n1_; (try clear hb); (try clear hb2); (try clear hk); (try clear hi)) | (go_at_call 8; (with_reducible refine (portcullislaw08_works.calls k5  t539 _ A71.out (WG.keep HG.out (by repeat (first | (with_reducible first | exact HB.out | apply below_alloc | apply pw_below_drewN | apply below_drew1) | exact HB.out)))).mono ?_); rintro e w73 ⟨rfl, hb⟩; have n0_ := Aside0.mk (Kd.R_below (by (with_reducible repeat (first | apply Kd.R_alloc | apply Kd.R_drewN | apply Kd.R_drew)); exact HO_12.out) hb); have n1_ := Aside0.mk (below_step (by repeat (first | (with_reducible first | exact HB.out | apply below_alloc | apply pw_below_drewN | apply below_drew1) | exact HB.out)) hb); clear HO_12; clear HB; have HO_12 := n0_; have HB := n1_; clear n0_ n1_; (try clear hb); (try clear hb2); (try clear hk); (try clear hi)))
                      repeat (go_quiet (first | (go_at_call 19; (with_reducible refine (skel_Name.calls a2 t537 _ A60.out).mono ?_); rintro e w72 ⟨rfl, hb⟩; have n0_ := Aside0.mk (Kd.R_below (by (with_reducible repeat (first | apply Kd.R_alloc | apply Kd.R_drewN | apply Kd.R_drew)); exact HO_12.out) hb); have n1_ := Aside0.mk (below_step (by repeat (first | (with_reducible first | exact HB.out | apply below_alloc | apply pw_below_drewN | apply below_drew1) | exact HB.out)) hb); clear HO_12; clear HB; have HO_12 := n0_; have HB := n1_; clear n0_ n1_; (try clear hb); (try clear hb2); (try clear hk); (try clear hi)) | (go_at_call 8; (with_reducible refine (portcullislaw08_works.calls k5  t539 _ A71.out (WG.keep HG.out (by repeat (first | (with_reducible first | exact HB.out | apply below_alloc | apply pw_below_drewN | apply below_drew1) | exact HB.out)))).mono ?_); rintro e w73 ⟨rfl, hb⟩; have n0_ := Aside0.mk (Kd.R_below (by (with_reducible repeat (first | apply Kd.R_alloc | apply Kd.R_drewN | apply Kd.R_drew)); exact HO_12.out) hb); have n1_ := Aside0.mk (below_step (by repeat (first | (with_reducible first | exact HB.out | apply below_alloc | apply pw_below_drewN | apply below_drew1) | exact HB.out)) hb); clear HO_12; clear HB; have HO_12 := n0_; have HB := n1_; clear n0_ n1_; (try clear hb); (try clear hb2); (try clear hk); (try clear hi))); try go_wp2_with (first | (go_at_call 19; (with_reducible refine (skel_Name.calls a2 t537 _ A60.out).mono ?_); rintro e w72 ⟨rfl, hb⟩; have n0_ := Aside0.mk (Kd.R_below (by (with_reducible repeat (first | apply Kd.R_alloc | apply Kd.R_drewN | apply Kd.R_drew)); exact HO_12.out) hb); have n1_ := Aside0.mk (below_step (by repeat (first | (with_reducible first | exact HB.out | apply below_alloc | apply pw_below_drewN | apply below_drew1) | exact HB.out)) hb); clear HO_12; clear HB; have HO_12 := n0_; have HB := n1_; clear n0_ n1_; (try clear hb); (try clear hb2); (try clear hk); (try clear hi)) | (go_at_call 8; (with_reducible refine (portcullislaw08_works.calls k5  t539 _ A71.out (WG.keep HG.out (by repeat (first | (with_reducible first | exact HB.out | apply below_alloc | apply pw_below_drewN | apply below_drew1) | exact HB.out)))).mono ?_); rintro e w73 ⟨rfl, hb⟩; have n0_ := Aside0.mk (Kd.R_below (by (with_reducible repeat (first | apply Kd.R_alloc | apply Kd.R_drewN | apply Kd.R_drew)); exact HO_12.out) hb); have n1_ := Aside0.mk (below_step (by repeat (first | (with_reducible first | exact HB.out | apply below_alloc | apply pw_below_drewN | apply below_drew1) | exact HB.out)) hb); clear HO_12; clear HB; have HO_12 := n0_; have HB := n1_; clear n0_ n1_; (try clear hb); (try clear hb2); (try clear hk); (try clear hi))))
                      go_ret
                      exact ⟨by first | rfl | (simp [errW_none, errW_some] <;> rfl) | (simp [*, errW_none, errW_some] <;> rfl), by repeat (first | (with_reducible first | exact HB.out | apply below_alloc | apply pw_below_drewN | apply below_drew1) | exact HB.out)⟩
                     ·rw [if_neg c70] at H
                      have c70b0 : ((wrap64 (t534)) == x16_5) = false := beq_eq_false_iff_ne.mpr c70
                      have c70b1 : ((wrap64 (t534)) != x16_5) = true := bne_iff_ne.mpr c70
                      obtain rfl := Option.some.inj H
                      go_wp2_with (first | (go_at_call 19; (with_reducible refine (skel_Name.calls a2 t537 _ A60.out).mono ?_); rintro e w74 ⟨rfl, hb⟩; have n0_ := Aside0.mk (Kd.R_below (by (with_reducible repeat (first | apply Kd.R_alloc | apply Kd.R_drewN | apply Kd.R_drew)); exact HO_12.out) hb); have n1_ := Aside0.mk (below_step (by repeat (first | (with_reducible first | exact HB.out | apply below_alloc | apply pw_below_drewN | apply below_drew1) | exact HB.out)) hb); clear HO_12; clear HB; have HO_12 := n0_; have HB := n1_; clear n0_ n1_; (try clear hb); (try clear hb2); (try clear hk); (try clear hi)))
                      repeat (go_quiet (first | (go_at_call 19; (with_reducible refine (skel_Name.calls a2 t537 _ A60.out).mono ?_); rintro e w74 ⟨rfl, hb⟩; have n0_ := Aside0.mk (Kd.R_below (by (with_reducible repeat (first | apply Kd.R_alloc | apply Kd.R_drewN | apply Kd.R_drew)); exact HO_12.out) hb); have n1_ := Aside0.mk (below_step (by repeat (first | (with_reducible first | exact HB.out | apply below_alloc | apply pw_below_drewN | apply below_drew1) | exact HB.out)) hb); clear HO_12; clear HB; have HO_12 := n0_; have HB := n1_; clear n0_ n1_; (try clear hb); (try clear hb2); (try clear hk); (try clear hi))); try go_wp2_with (first | (go_at_call 19; (with_reducible refine (skel_Name.calls a2 t537 _ A60.out).mono ?_); rintro e w74 ⟨rfl, hb⟩; have n0_ := Aside0.mk (Kd.R_below (by (with_reducible repeat (first | apply Kd.R_alloc | apply Kd.R_drewN | apply Kd.R_drew)); exact HO_12.out) hb); have n1_ := Aside0.mk (below_step (by repeat (first | (with_reducible first | exact HB.out | apply below_alloc | apply pw_below_drewN | apply below_drew1) | exact HB.out)) hb); clear HO_12; clear HB; have HO_12 := n0_; have HB := n1_; clear n0_ n1_; (try clear hb); (try clear hb2); (try clear hk); (try clear hi))))
                      go_ret
                      exact ⟨by first | rfl | (simp [errW_none, errW_some] <;> rfl) | (simp [*, errW_none, errW_some] <;> rfl), by repeat (first | (with_reducible first | exact HB.out | apply below_alloc | apply pw_below_drewN | apply below_drew1) | exact HB.out)⟩
                    ·rw [if_neg c69] at H
                     have c69b0 : decide (0 ≤ x16_5) = false := decide_eq_false c69; have c69x : (t535 == 0) = false := (by simpa [c69b0] using c62b0)
                     clear c69
                     obtain rfl := Option.some.inj H
                     go_wp2_with (first | (go_at_call 19; (with_reducible refine (skel_Name.calls a2 t537 _ A60.out).mono ?_); rintro e w75 ⟨rfl, hb⟩; have n0_ := Aside0.mk (Kd.R_below (by (with_reducible repeat (first | apply Kd.R_alloc | apply Kd.R_drewN | apply Kd.R_drew)); exact HO_12.out) hb); have n1_ := Aside0.mk (below_step (by repeat (first | (with_reducible first | exact HB.out | apply below_alloc | apply pw_below_drewN | apply below_drew1) | exact HB.out)) hb); clear HO_12; clear HB; have HO_12 := n0_; have HB := n1_; clear n0_ n1_; (try clear hb); (try clear hb2); (try clear hk); (try clear hi)))
                     repeat (go_quiet (first | (go_at_call 19; (with_reducible refine (skel_Name.calls a2 t537 _ A60.out).mono ?_); rintro e w75 ⟨rfl, hb⟩; have n0_ := Aside0.mk (Kd.R_below (by (with_reducible repeat (first | apply Kd.R_alloc | apply Kd.R_drewN | apply Kd.R_drew)); exact HO_12.out) hb); have n1_ := Aside0.mk (below_step (by repeat (first | (with_reducible first | exact HB.out | apply below_alloc | apply pw_below_drewN | apply below_drew1) | exact HB.out)) hb); clear HO_12; clear HB; have HO_12 := n0_; have HB := n1_; clear n0_ n1_; (try clear hb); (try clear hb2); (try clear hk); (try clear hi))); try go_wp2_with (first | (go_at_call 19; (with_reducible refine (skel_Name.calls a2 t537 _ A60.out).mono ?_); rintro e w75 ⟨rfl, hb⟩; have n0_ := Aside0.mk (Kd.R_below (by (with_reducible repeat (first | apply Kd.R_alloc | apply Kd.R_drewN | apply Kd.R_drew)); exact HO_12.out) hb); have n1_ := Aside0.mk (below_step (by repeat (first | (with_reducible first | exact HB.out | apply below_alloc | apply pw_below_drewN | apply below_drew1) | exact HB.out)) hb); clear HO_12; clear HB; have HO_12 := n0_; have HB := n1_; clear n0_ n1_; (try clear hb); (try clear hb2); (try clear hk); (try clear hi))))
                     go_ret
                     exact ⟨by first | rfl | (simp [errW_none, errW_some] <;> rfl) | (simp [*, errW_none, errW_some] <;> rfl), by repeat (first | (with_reducible first | exact HB.out | apply below_alloc | apply pw_below_drewN | apply below_drew1) | exact HB.out)⟩
                  ·rw [if_neg c64] at H
                   have c64b0 : (t534 == 0) = false := beq_eq_false_iff_ne.mpr c64
                   have c64b1 : (t534 != 0) = true := bne_iff_ne.mpr c64
                   by_cases c76 : x16_5 ≥ 0
                   ·rw [if_pos c76] at H
                    have c76b0 : decide (0 ≤ x16_5) = true := decide_eq_true c76; have c76x : (t535 == 0) = true := (by simpa [c76b0] using c62b0)
                    clear c76
                    by_cases c77 : (wrap64 (t534)) = x16_5
                    ·rw [if_pos c77] at H
                     have c77b0 : ((wrap64 (t534)) == x16_5) = true := beq_iff_eq.mpr c77
                     have c77b1 : ((wrap64 (t534)) != x16_5) = false := bne_eq_false_iff_eq.mpr c77
                     clear c77
                     replace H := Option.bind_eq_some_iff.mp H
                     obtain ⟨t540, A780, H⟩ := H
                     replace H : (some t540) = some r := H
                     have A78 := Aside0.mk A780
                     clear A780
                     obtain rfl := Option.some.inj H
                     go_wp2_with (first | (go_at_call 19; (with_reducible refine (skel_Name.calls a2 t537 _ A60.out).mono ?_); rintro e w79 ⟨rfl, hb⟩; have n0_ := Aside0.mk (Kd.R_below (by (with_reducible repeat (first | apply Kd.R_alloc | apply Kd.R_drewN | apply Kd.R_drew)); exact HO_12.out) hb); have n1_ := Aside0.mk (below_step (by repeat (first | (with_reducible first | exact HB.out | apply below_alloc | apply pw_below_drewN | apply below_drew1) | exact HB.out)) hb); clear HO_12; clear HB; have HO_12 := n0_; have HB := n1_; clear n0_ n1_; (try clear hb); (try clear hb2); (try clear hk); (try clear hi)) | (go_at_call 8; (with_reducible refine (portcullislaw08_works.calls k5  t540 _ A78.out (WG.keep HG.out (by repeat (first | (with_reducible first | exact HB.out | apply below_alloc | apply pw_below_drewN | apply below_drew1) | exact HB.out)))).mono ?_); rintro e w80 ⟨rfl, hb⟩; have n0_ := Aside0.mk (Kd.R_below (by (with_reducible repeat (first | apply Kd.R_alloc | apply Kd.R_drewN | apply Kd.R_drew)); exact HO_12.out) hb); have n1_ := Aside0.mk (below_step (by repeat (first | (with_reducible first | exact HB.out | apply below_alloc | apply pw_below_drewN | apply below_drew1) | exact HB.out)) hb); clear HO_12; clear HB; have HO_12 := n0_; have HB := n1_; clear n0_ n1_; (try clear hb); (try clear hb2); (try clear hk); (try clear hi)))
                     repeat (go_quiet (first | (go_at_call 19; (with_reducible refine (skel_Name.calls a2 t537 _ A60.out).mono ?_); rintro e w79 ⟨rfl, hb⟩; have n0_ := Aside0.mk (Kd.R_below (by (with_reducible repeat (first | apply Kd.R_alloc | apply Kd.R_drewN | apply Kd.R_drew)); exact HO_12.out) hb); have n1_ := Aside0.mk (below_step (by repeat (first | (with_reducible first | exact HB.out | apply below_alloc | apply pw_below_drewN | apply below_drew1) | exact HB.out)) hb); clear HO_12; clear HB; have HO_12 := n0_; have HB := n1_; clear n0_ n1_; (try clear hb); (try clear hb2); (try clear hk); (try clear hi)) | (go_at_call 8; (with_reducible refine (portcullislaw08_works.calls k5  t540 _ A78.out (WG.keep HG.out (by repeat (first | (with_reducible first | exact HB.out | apply below_alloc | apply pw_below_drewN | apply below_drew1) | exact HB.out)))).mono ?_); rintro e w80 ⟨rfl, hb⟩; have n0_ := Aside0.mk (Kd.R_below (by (with_reducible repeat (first | apply Kd.R_alloc | apply Kd.R_drewN | apply Kd.R_drew)); exact HO_12.out) hb); have n1_ := Aside0.mk (below_step (by repeat (first | (with_reducible first | exact HB.out | apply below_alloc | apply pw_below_drewN | apply below_drew1) | exact HB.out)) hb); clear HO_12; clear HB; have HO_12 := n0_; have HB := n1_; clear n0_ n1_; (try clear hb); (try clear hb2); (try clear hk); (try clear hi))); try go_wp2_with (first | (go_at_call 19; (with_reducible refine (skel_Name.calls a2 t537 _ A60.out).mono ?_); rintro e w79 ⟨rfl, hb⟩; have n0_ := Aside0.mk (Kd.R_below (by (with_reducible repeat (first | apply Kd.R_alloc | apply Kd.R_drewN | apply Kd.R_drew)); exact HO_12.out) hb); have n1_ := Aside0.mk (below_step (by repeat (first | (with_reducible first | exact HB.out | apply below_alloc | apply pw_below_drewN | apply below_drew1) | exact HB.out)) hb); clear HO_12; clear HB; have HO_12 := n0_; have HB := n1_; clear n0_ n1_; (try clear hb); (try clear hb2); (try clear hk); (try clear hi)) | (go_at_call 8; (with_reducible refine (portcullislaw08_works.calls k5  t540 _ A78.out (WG.keep HG.out (by repeat (first | (with_reducible first | exact HB.out | apply below_alloc | apply pw_below_drewN | apply below_drew1) | exact HB.out)))).mono ?_); rintro e w80 ⟨rfl, hb⟩; have n0_ := Aside0.mk (Kd.R_below (by (with_reducible repeat (first | apply Kd.R_alloc | apply Kd.R_drewN | apply Kd.R_drew)); exact HO_12.out) hb); have n1_ := Aside0.mk (below_step (by repeat (first | (with_reducible first | exact HB.out | apply below_alloc | apply pw_below_drewN | apply below_drew1) | exact HB.out)) hb); clear HO_12; clear HB; have HO_12 := n0_; have HB := n1_; clear n0_ n1_; (try clear hb); (try clear hb2); (try clear hk); (try clear hi))))
                     go_ret
                     exact ⟨by first | rfl | (simp [errW_none, errW_some] <;> rfl) | (simp [*, errW_none, errW_some] <;> rfl), by repeat (first | (with_reducible first | exact HB.out | apply below_alloc | apply pw_below_drewN | apply below_drew1) | exact HB.out)⟩
                    ·rw [if_neg c77] at H
                     have c77b0 : ((wrap64 (t534)) == x16_5) = false := beq_eq_false_iff_ne.mpr c77
                     have c77b1 : ((wrap64 (t534)) != x16_5) = true := bne_iff_ne.mpr c77
                     obtain rfl := Option.some.inj H
                     go_wp2_with (first | (go_at_call 19; (with_reducible refine (skel_Name.calls a2 t537 _ A60.out).mono ?_); rintro e w81 ⟨rfl, hb⟩; have n0_ := Aside0.mk (Kd.R_below (by (with_reducible repeat (first | apply Kd.R_alloc | apply Kd.R_drewN | apply Kd.R_drew)); exact HO_12.out) hb); have n1_ := Aside0.mk (below_step (by repeat (first | (with_reducible first | exact HB.out | apply below_alloc | apply pw_below_drewN | apply below_drew1) | exact HB.out)) hb); clear HO_12; clear HB; have HO_12 := n0_; have HB := n1_; clear n0_ n1_; (try clear hb); (try clear hb2); (try clear hk); (try clear hi)))
                     repeat (go_quiet (first | (go_at_call 19; (with_reducible refine (skel_Name.calls a2 t537 _ A60.out).mono ?_); rintro e w81 ⟨rfl, hb⟩; have n0_ := Aside0.mk (Kd.R_below (by (with_reducible repeat (first | apply Kd.R_alloc | apply Kd.R_drewN | apply Kd.R_drew)); exact HO_12.out) hb); have n1_ := Aside0.mk (below_step (by repeat (first | (with_reducible first | exact HB.out | apply below_alloc | apply pw_below_drewN | apply below_drew1) | exact HB.out)) hb); clear HO_12; clear HB; have HO_12 := n0_; have HB := n1_; clear n0_ n1_; (try clear hb); (try clear hb2); (try clear hk); (try clear hi))); try go_wp2_with (first | (go_at_call 19; (with_reducible refine (skel_Name.calls a2 t537 _ A60.out).mono ?_); rintro e w81 ⟨rfl, hb⟩; have n0_ := Aside0.mk (Kd.R_below (by (with_reducible repeat (first | apply Kd.R_alloc | apply Kd.R_drewN | apply Kd.R_drew)); exact HO_12.out) hb); have n1_ := Aside0.mk (below_step (by repeat (first | (with_reducible first | exact HB.out | apply below_alloc | apply pw_below_drewN | apply below_drew1) | exact HB.out)) hb); clear HO_12; clear HB; have HO_12 := n0_; have HB := n1_; clear n0_ n1_; (try clear hb); (try clear hb2); (try clear hk); (try clear hi))))
                     go_ret
                     exact ⟨by first | rfl | (simp [errW_none, errW_some] <;> rfl) | (simp [*, errW_none, errW_some] <;> rfl), by repeat (first | (with_reducible first | exact HB.out | apply below_alloc | apply pw_below_drewN | apply below_drew1) | exact HB.out)⟩
                   ·rw [if_neg c76] at H
                    have c76b0 : decide (0 ≤ x16_5) = false := decide_eq_false c76; have c76x : (t535 == 0) = false := (by simpa [c76b0] using c62b0)
                    clear c76
                    obtain rfl := Option.some.inj H
                    go_wp2_with (first | (go_at_call 19; (with_reducible refine (skel_Name.calls a2 t537 _ A60.out).mono ?_); rintro e w82 ⟨rfl, hb⟩; have n0_ := Aside0.mk (Kd.R_below (by (with_reducible repeat (first | apply Kd.R_alloc | apply Kd.R_drewN | apply Kd.R_drew)); exact HO_12.out) hb); have n1_ := Aside0.mk (below_step (by repeat (first | (with_reducible first | exact HB.out | apply below_alloc | apply pw_below_drewN | apply below_drew1) | exact HB.out)) hb); clear HO_12; clear HB; have HO_12 := n0_; have HB := n1_; clear n0_ n1_; (try clear hb); (try clear hb2); (try clear hk); (try clear hi)))
                    repeat (go_quiet (first | (go_at_call 19; (with_reducible refine (skel_Name.calls a2 t537 _ A60.out).mono ?_); rintro e w82 ⟨rfl, hb⟩; have n0_ := Aside0.mk (Kd.R_below (by (with_reducible repeat (first | apply Kd.R_alloc | apply Kd.R_drewN | apply Kd.R_drew)); exact HO_12.out) hb); have n1_ := Aside0.mk (below_step (by repeat (first | (with_reducible first | exact HB.out | apply below_alloc | apply pw_below_drewN | apply below_drew1) | exact HB.out)) hb); clear HO_12; clear HB; have HO_12 := n0_; have HB := n1_; clear n0_ n1_; (try clear hb); (try clear hb2); (try clear hk); (try clear hi))); try go_wp2_with (first | (go_at_call 19; (with_reducible refine (skel_Name.calls a2 t537 _ A60.out).mono ?_); rintro e w82 ⟨rfl, hb⟩; have n0_ := Aside0.mk (Kd.R_below (by (with_reducible repeat (first | apply Kd.R_alloc | apply Kd.R_drewN | apply Kd.R_drew)); exact HO_12.out) hb); have n1_ := Aside0.mk (below_step (by repeat (first | (with_reducible first | exact HB.out | apply below_alloc | apply pw_below_drewN | apply below_drew1) | exact HB.out)) hb); clear HO_12; clear HB; have HO_12 := n0_; have HB := n1_; clear n0_ n1_; (try clear hb); (try clear hb2); (try clear hk); (try clear hi))))
                    go_ret
                    exact ⟨by first | rfl | (simp [errW_none, errW_some] <;> rfl) | (simp [*, errW_none, errW_some] <;> rfl), by repeat (first | (with_reducible first | exact HB.out | apply below_alloc | apply pw_below_drewN | apply below_drew1) | exact HB.out)⟩
                 ·rw [if_neg c63] at H
                  have c63b0 : decide (x16_5 < 0) = false := decide_eq_false c63
                  clear c63
                  by_cases c83 : x16_5 ≥ 0
                  ·rw [if_pos c83] at H
                   have c83b0 : decide (0 ≤ x16_5) = true := decide_eq_true c83; have c83x : (t535 == 0) = true := (by simpa [c83b0] using c62b0)
                   clear c83
                   by_cases c84 : (wrap64 (t534)) = x16_5
                   ·rw [if_pos c84] at H
                    have c84b0 : ((wrap64 (t534)) == x16_5) = true := beq_iff_eq.mpr c84
                    have c84b1 : ((wrap64 (t534)) != x16_5) = false := bne_eq_false_iff_eq.mpr c84
                    clear c84
                    replace H := Option.bind_eq_some_iff.mp H
                    obtain ⟨t541, A850, H⟩ := H
                    replace H : (some t541) = some r := H
                    have A85 := Aside0.mk A850
                    clear A850
                    obtain rfl := Option.some.inj H
                    go_wp2_with (first | (go_at_call 19; (with_reducible refine (skel_Name.calls a2 t537 _ A60.out).mono ?_); rintro e w86 ⟨rfl, hb⟩; have n0_ := Aside0.mk (Kd.R_below (by (with_reducible repeat (first | apply Kd.R_alloc | apply Kd.R_drewN | apply Kd.R_drew)); exact HO_12.out) hb); have n1_ := Aside0.mk (below_step (by repeat (first | (with_reducible first | exact HB.out | apply below_alloc | apply pw_below_drewN | apply below_drew1) | exact HB.out)) hb); clear HO_12; clear HB; have HO_12 := n0_; have HB := n1_; clear n0_ n1_; (try clear hb); (try clear hb2); (try clear hk); (try clear hi)) | (go_at_call 8; (with_reducible refine (portcullislaw08_works.calls k5  t541 _ A85.out (WG.keep HG.out (by repeat (first | (with_reducible first | exact HB.out | apply below_alloc | apply pw_below_drewN | apply below_drew1) | exact HB.out)))).mono ?_); rintro e w87 ⟨rfl, hb⟩; have n0_ := Aside0.mk (Kd.R_below (by (with_reducible repeat (first | apply Kd.R_alloc | apply Kd.R_drewN | apply Kd.R_drew)); exact HO_12.out) hb); have n1_ := Aside0.mk (below_step (by repeat (first | (with_reducible first | exact HB.out | apply below_alloc | apply pw_below_drewN | apply below_drew1) | exact HB.out)) hb); clear HO_12; clear HB; have HO_12 := n0_; have HB := n1_; clear n0_ n1_; (try clear hb); (try clear hb2); (try clear hk); (try clear hi)))
                    repeat (go_quiet (first | (go_at_call 19; (with_reducible refine (skel_Name.calls a2 t537 _ A60.out).mono ?_); rintro e w86 ⟨rfl, hb⟩; have n0_ := Aside0.mk (Kd.R_below (by (with_reducible repeat (first | apply Kd.R_alloc | apply Kd.R_drewN | apply Kd.R_drew)); exact HO_12.out) hb); have n1_ := Aside0.mk (below_step (by repeat (first | (with_reducible first | exact HB.out | apply below_alloc | apply pw_below_drewN | apply below_drew1) | exact HB.out)) hb); clear HO_12; clear HB; have HO_12 := n0_; have HB := n1_; clear n0_ n1_; (try clear hb); (try clear hb2); (try clear hk); (try clear hi)) | (go_at_call 8; (with_reducible refine (portcullislaw08_works.calls k5  t541 _ A85.out (WG.keep HG.out (by repeat (first | (with_reducible first | exact HB.out | apply below_alloc | apply pw_below_drewN | apply below_drew1) | exact HB.out)))).mono ?_); rintro e w87 ⟨rfl, hb⟩; have n0_ := Aside0.mk (Kd.R_below (by (with_reducible repeat (first | apply Kd.R_alloc | apply Kd.R_drewN | apply Kd.R_drew)); exact HO_12.out) hb); have n1_ := Aside0.mk (below_step (by repeat (first | (with_reducible first | exact HB.out | apply below_alloc | apply pw_below_drewN | apply below_drew1) | exact HB.out)) hb); clear HO_12; clear HB; have HO_12 := n0_; have HB := n1_; clear n0_ n1_; (try clear hb); (try clear hb2); (try clear hk); (try clear hi))); try go_wp2_with (first | (go_at_call 19; (with_reducible refine (skel_Name.calls a2 t537 _ A60.out).mono ?_); rintro e w86 ⟨rfl, hb⟩; have n0_ := Aside0.mk (Kd.R_below (by (with_reducible repeat (first | apply Kd.R_alloc | apply Kd.R_drewN | apply Kd.R_drew)); exact HO_12.out) hb); have n1_ := Aside0.mk (below_step (by repeat (first | (with_reducible first | exact HB.out | apply below_alloc | apply pw_below_drewN | apply below_drew1) | exact HB.out)) hb); clear HO_12; clear HB; have HO_12 := n0_; have HB := n1_; clear n0_ n1_; (try clear hb); (try clear hb2); (try clear hk); (try clear hi)) | (go_at_call 8; (with_reducible refine (portcullislaw08_works.calls k5  t541 _ A85.out (WG.keep HG.out (by repeat (first | (with_reducible first | exact HB.out | apply below_alloc | apply pw_below_drewN | apply below_drew1) | exact HB.out)))).mono ?_); rintro e w87 ⟨rfl, hb⟩; have n0_ := Aside0.mk (Kd.R_below (by (with_reducible repeat (first | apply Kd.R_alloc | apply Kd.R_drewN | apply Kd.R_drew)); exact HO_12.out) hb); have n1_ := Aside0.mk (below_step (by repeat (first | (with_reducible first | exact HB.out | apply below_alloc | apply pw_below_drewN | apply below_drew1) | exact HB.out)) hb); clear HO_12; clear HB; have HO_12 := n0_; have HB := n1_; clear n0_ n1_; (try clear hb); (try clear hb2); (try clear hk); (try clear hi))))
                    go_ret
                    exact ⟨by first | rfl | (simp [errW_none, errW_some] <;> rfl) | (simp [*, errW_none, errW_some] <;> rfl), by repeat (first | (with_reducible first | exact HB.out | apply below_alloc | apply pw_below_drewN | apply below_drew1) | exact HB.out)⟩
                   ·rw [if_neg c84] at H
                    have c84b0 : ((wrap64 (t534)) == x16_5) = false := beq_eq_false_iff_ne.mpr c84
                    have c84b1 : ((wrap64 (t534)) != x16_5) = true := bne_iff_ne.mpr c84
                    obtain rfl := Option.some.inj H
                    go_wp2_with (first | (go_at_call 19; (with_reducible refine (skel_Name.calls a2 t537 _ A60.out).mono ?_); rintro e w88 ⟨rfl, hb⟩; have n0_ := Aside0.mk (Kd.R_below (by (with_reducible repeat (first | apply Kd.R_alloc | apply Kd.R_drewN | apply Kd.R_drew)); exact HO_12.out) hb); have n1_ := Aside0.mk (below_step (by repeat (first | (with_reducible first | exact HB.out | apply below_alloc | apply pw_below_drewN | apply below_drew1) | exact HB.out)) hb); clear HO_12; clear HB; have HO_12 := n0_; have HB := n1_; clear n0_ n1_; (try clear hb); (try clear hb2); (try clear hk); (try clear hi)))
                    repeat (go_quiet (first | (go_at_call 19; (with_reducible refine (skel_Name.calls a2 t537 _ A60.out).mono ?_); rintro e w88 ⟨rfl, hb⟩; have n0_ := Aside0.mk (Kd.R_below (by (with_reducible repeat (first | apply Kd.R_alloc | apply Kd.R_drewN | apply Kd.R_drew)); exact HO_12.out) hb); have n1_ := Aside0.mk (below_step (by repeat (first | (with_reducible first | exact HB.out | apply below_alloc | apply pw_below_drewN | apply below_drew1) | exact HB.out)) hb); clear HO_12; clear HB; have HO_12 := n0_; have HB := n1_; clear n0_ n1_; (try clear hb); (try clear hb2); (try clear hk); (try clear hi))); try go_wp2_with (first | (go_at_call 19; (with_reducible refine (skel_Name.calls a2 t537 _ A60.out).mono ?_); rintro e w88 ⟨rfl, hb⟩; have n0_ := Aside0.mk (Kd.R_below (by (with_reducible repeat (first | apply Kd.R_alloc | apply Kd.R_drewN | apply Kd.R_drew)); exact HO_12.out) hb); have n1_ := Aside0.mk (below_step (by repeat (first | (with_reducible first | exact HB.out | apply below_alloc | apply pw_below_drewN | apply below_drew1) | exact HB.out)) hb); clear HO_12; clear HB; have HO_12 := n0_; have HB := n1_; clear n0_ n1_; (try clear hb); (try clear hb2); (try clear hk); (try clear hi))))
                    go_ret
                    exact ⟨by first | rfl | (simp [errW_none, errW_some] <;> rfl) | (simp [*, errW_none, errW_some] <;> rfl), by repeat (first | (with_reducible first | exact HB.out | apply below_alloc | apply pw_below_drewN | apply below_drew1) | exact HB.out)⟩
                  ·rw [if_neg c83] at H
                   have c83b0 : decide (0 ≤ x16_5) = false := decide_eq_false c83; have c83x : (t535 == 0) = false := (by simpa [c83b0] using c62b0)
                   clear c83
                   obtain rfl := Option.some.inj H
                   go_wp2_with (first | (go_at_call 19; (with_reducible refine (skel_Name.calls a2 t537 _ A60.out).mono ?_); rintro e w89 ⟨rfl, hb⟩; have n0_ := Aside0.mk (Kd.R_below (by (with_reducible repeat (first | apply Kd.R_alloc | apply Kd.R_drewN | apply Kd.R_drew)); exact HO_12.out) hb); have n1_ := Aside0.mk (below_step (by repeat (first | (with_reducible first | exact HB.out | apply below_alloc | apply pw_below_drewN | apply below_drew1) | exact HB.out)) hb); clear HO_12; clear HB; have HO_12 := n0_; have HB := n1_; clear n0_ n1_; (try clear hb); (try clear hb2); (try clear hk); (try clear hi)))
                   repeat (go_quiet (first | (go_at_call 19; (with_reducible refine (skel_Name.calls a2 t537 _ A60.out).mono ?_); rintro e w89 ⟨rfl, hb⟩; have n0_ := Aside0.mk (Kd.R_below (by (with_reducible repeat (first | apply Kd.R_alloc | apply Kd.R_drewN | apply Kd.R_drew)); exact HO_12.out) hb); have n1_ := Aside0.mk (below_step (by repeat (first | (with_reducible first | exact HB.out | apply below_alloc | apply pw_below_drewN | apply below_drew1) | exact HB.out)) hb); clear HO_12; clear HB; have HO_12 := n0_; have HB := n1_; clear n0_ n1_; (try clear hb); (try clear hb2); (try clear hk); (try clear hi))); try go_wp2_with (first | (go_at_call 19; (with_reducible refine (skel_Name.calls a2 t537 _ A60.out).mono ?_); rintro e w89 ⟨rfl, hb⟩; have n0_ := Aside0.mk (Kd.R_below (by (with_reducible repeat (first | apply Kd.R_alloc | apply Kd.R_drewN | apply Kd.R_drew)); exact HO_12.out) hb); have n1_ := Aside0.mk (below_step (by repeat (first | (with_reducible first | exact HB.out | apply below_alloc | apply pw_below_drewN | apply below_drew1) | exact HB.out)) hb); clear HO_12; clear HB; have HO_12 := n0_; have HB := n1_; clear n0_ n1_; (try clear hb); (try clear hb2); (try clear hk); (try clear hi))))
                   go_ret
                   exact ⟨by first | rfl | (simp [errW_none, errW_some] <;> rfl) | (simp [*, errW_none, errW_some] <;> rfl), by repeat (first | (with_reducible first | exact HB.out | apply below_alloc | apply pw_below_drewN | apply below_drew1) | exact HB.out)⟩
                ·rw [if_neg c62] at H
                 have c62b0 : ((t535 == 0) == (decide (x16_5 ≥ 0))) = false := by simpa using c62
                 (try (have c62b1 : decide ((t535 == 0) = (decide (x16_5 ≥ 0))) = false := by simpa using c62))
                 (try (have c62b2 : ((t535 == 0) == (decide (x16_5 ≥ 0))) = false := by simpa using c62))
                 (try (have c62b3 : ¬ ((t535 == 0) = (decide (x16_5 ≥ 0))) := by simpa using c62))
                 clear c62
                 obtain rfl := Option.some.inj H
                 go_wp2_with (first | (go_at_call 19; (with_reducible refine (skel_Name.calls a2 t537 _ A60.out).mono ?_); rintro e w90 ⟨rfl, hb⟩; have n0_ := Aside0.mk (Kd.R_below (by (with_reducible repeat (first | apply Kd.R_alloc | apply Kd.R_drewN | apply Kd.R_drew)); exact HO_12.out) hb); have n1_ := Aside0.mk (below_step (by repeat (first | (with_reducible first | exact HB.out | apply below_alloc | apply pw_below_drewN | apply below_drew1) | exact HB.out)) hb); clear HO_12; clear HB; have HO_12 := n0_; have HB := n1_; clear n0_ n1_; (try clear hb); (try clear hb2); (try clear hk); (try clear hi)))
                 repeat (go_quiet (first | (go_at_call 19; (with_reducible refine (skel_Name.calls a2 t537 _ A60.out).mono ?_); rintro e w90 ⟨rfl, hb⟩; have n0_ := Aside0.mk (Kd.R_below (by (with_reducible repeat (first | apply Kd.R_alloc | apply Kd.R_drewN | apply Kd.R_drew)); exact HO_12.out) hb); have n1_ := Aside0.mk (below_step (by repeat (first | (with_reducible first | exact HB.out | apply below_alloc | apply pw_below_drewN | apply below_drew1) | exact HB.out)) hb); clear HO_12; clear HB; have HO_12 := n0_; have HB := n1_; clear n0_ n1_; (try clear hb); (try clear hb2); (try clear hk); (try clear hi))); try go_wp2_with (first | (go_at_call 19; (with_reducible refine (skel_Name.calls a2 t537 _ A60.out).mono ?_); rintro e w90 ⟨rfl, hb⟩; have n0_ := Aside0.mk (Kd.R_below (by (with_reducible repeat (first | apply Kd.R_alloc | apply Kd.R_drewN | apply Kd.R_drew)); exact HO_12.out) hb); have n1_ := Aside0.mk (below_step (by repeat (first | (with_reducible first | exact HB.out | apply below_alloc | apply pw_below_drewN | apply below_drew1) | exact HB.out)) hb); clear HO_12; clear HB; have HO_12 := n0_; have HB := n1_; clear n0_ n1_; (try clear hb); (try clear hb2); (try clear hk); (try clear hi))))
                 go_ret
                 exact ⟨by first | rfl | (simp [errW_none, errW_some] <;> rfl) | (simp [*, errW_none, errW_some] <;> rfl), by repeat (first | (with_reducible first | exact HB.out | apply below_alloc | apply pw_below_drewN | apply below_drew1) | exact HB.out)⟩
               ·rw [if_neg c61] at H
                have c61b0 : (t537.toList == x13_47.toList) = false := beq_eq_false_iff_ne.mpr c61
                have c61b1 : (t537.toList != x13_47.toList) = true := bne_iff_ne.mpr c61
                obtain rfl := Option.some.inj H
                go_wp2_with (first | (go_at_call 19; (with_reducible refine (skel_Name.calls a2 t537 _ A60.out).mono ?_); rintro e w91 ⟨rfl, hb⟩; have n0_ := Aside0.mk (Kd.R_below (by (with_reducible repeat (first | apply Kd.R_alloc | apply Kd.R_drewN | apply Kd.R_drew)); exact HO_12.out) hb); have n1_ := Aside0.mk (below_step (by repeat (first | (with_reducible first | exact HB.out | apply below_alloc | apply pw_below_drewN | apply below_drew1) | exact HB.out)) hb); clear HO_12; clear HB; have HO_12 := n0_; have HB := n1_; clear n0_ n1_; (try clear hb); (try clear hb2); (try clear hk); (try clear hi)))
                repeat (go_quiet (first | (go_at_call 19; (with_reducible refine (skel_Name.calls a2 t537 _ A60.out).mono ?_); rintro e w91 ⟨rfl, hb⟩; have n0_ := Aside0.mk (Kd.R_below (by (with_reducible repeat (first | apply Kd.R_alloc | apply Kd.R_drewN | apply Kd.R_drew)); exact HO_12.out) hb); have n1_ := Aside0.mk (below_step (by repeat (first | (with_reducible first | exact HB.out | apply below_alloc | apply pw_below_drewN | apply below_drew1) | exact HB.out)) hb); clear HO_12; clear HB; have HO_12 := n0_; have HB := n1_; clear n0_ n1_; (try clear hb); (try clear hb2); (try clear hk); (try clear hi))); try go_wp2_with (first | (go_at_call 19; (with_reducible refine (skel_Name.calls a2 t537 _ A60.out).mono ?_); rintro e w91 ⟨rfl, hb⟩; have n0_ := Aside0.mk (Kd.R_below (by (with_reducible repeat (first | apply Kd.R_alloc | apply Kd.R_drewN | apply Kd.R_drew)); exact HO_12.out) hb); have n1_ := Aside0.mk (below_step (by repeat (first | (with_reducible first | exact HB.out | apply below_alloc | apply pw_below_drewN | apply below_drew1) | exact HB.out)) hb); clear HO_12; clear HB; have HO_12 := n0_; have HB := n1_; clear n0_ n1_; (try clear hb); (try clear hb2); (try clear hk); (try clear hi))))
                go_ret
                exact ⟨by first | rfl | (simp [errW_none, errW_some] <;> rfl) | (simp [*, errW_none, errW_some] <;> rfl), by repeat (first | (with_reducible first | exact HB.out | apply below_alloc | apply pw_below_drewN | apply below_drew1) | exact HB.out)⟩

/-- THE ONE PURE STATEMENT of portcullislaw08_SkelTells: yours. -/
def portcullislaw08_SkelTells.Pure : Prop := ∀ (a0 : ByteArray) (a1 : ByteArray) (a2 : Int), a0.size ≤ 140737488351232 → a1.size ≤ 140737488351232 → (Lit.int .u8 a2).wf = true → ∃ k, portcullislaw08_SkelTells.f k a0 a1 a2 = some true
theorem portcullislaw08_SkelTells.walk (P : portcullislaw08_SkelTells.Pure) (a0 : ByteArray) (a1 : ByteArray) (a2 : Int) (w : World) (w0 : a0.size ≤ 140737488351232) (w1 : a1.size ≤ 140737488351232) (w2 : (Lit.int .u8 a2).wf = true) (hG : WG w) :
  Calls Tryd.prog 6 #[.string a0, .string a1, .int .u8 a2] w fun e w' => e = .returned (.bool true) ∧ Below w.heap.size w w' := by
 have HG := Aside0.mk hG
 have HB := Aside0.mk (Below.refl w.heap.size w)
 clear hG
 obtain ⟨k, h⟩ := P a0 a1 a2 w0 w1 w2
 refine (portcullislaw08_SkelTells.calls k a0 a1 a2 true w h (WG.keep HG.out (by repeat (first | (with_reducible first | exact HB.out | apply below_alloc | apply pw_below_drewN | apply below_drew1) | exact HB.out)))).mono ?_
 rintro e w' ⟨rfl, hd⟩
 exact ⟨rfl, hd⟩

end Go.Proofs.YtncbbgmhmofhnaaDoor.Pr
end

section
namespace Go.Proofs.YtncbbgmhmofhnaaDoor.Pr
open Go.RowKit Go.Proofs.YtncbbgmhmofhnaaDoorW.PrintWords Go.Proofs.YtncbbgmhmofhnaaDoorW.PrintLast Go.Proofs.YtncbbgmhmofhnaaDoorW.PrintMore
set_option linter.unusedVariables false
set_option linter.unusedSimpArgs false

def mkB (l : List UInt8) : ByteArray := ⟨l.toArray⟩
theorem mkB_data (s : ByteArray) : mkB s.data.toList = s := by cases s; simp [mkB]
theorem data_mkB (l : List UInt8) : (mkB l).data.toList = l := by simp [mkB]
theorem mkB_size (l : List UInt8) : (mkB l).size = l.length := by rw [← data_length, data_mkB]
end Go.Proofs.YtncbbgmhmofhnaaDoor.Pr
end

section
namespace Go.Proofs.YtncbbgmhmofhnaaDoor.Pr
set_option linter.unusedVariables false
set_option linter.unusedSimpArgs false

def Fd (l : List Int) : Prop := ∀ y ∈ l, decU y = []
theorem ordM_len (l : List Int) : (ordM clsU l).length = l.length := (ordM_perm clsU l).length_eq

/-- prev: the class of what stood ahead. -/
def OkL : Int → List Int → Prop
  | _, [] => True
  | p, r :: t => (clsU r = 0 ∨ p ≤ clsU r) ∧ OkL (clsU r) t
structure CmpI (seg rest : List Int) (last prev : Int) : Prop where
  fd : Fd (seg ++ rest)
  nz : ∀ y ∈ seg, clsU y ≠ 0
  le : ∀ y ∈ seg, clsU y ≤ last
  lp : last ≤ prev
  ok : OkL prev rest
theorem CmpI.zero {seg t : List Int} {r last prev : Int} (h : CmpI seg (r :: t) last prev) (hz : clsU r = 0) : CmpI [] t 0 0 := by
  have := h.ok.2
  rw [hz] at this
  exact ⟨fun y hy => h.fd y (by simp at hy; simp [hy]), fun y hy => by simp at hy, fun y hy => by simp at hy, Int.le_refl _, this⟩
theorem CmpI.push {seg t : List Int} {r last prev : Int} (h : CmpI seg (r :: t) last prev) (hz : clsU r ≠ 0) : CmpI (seg ++ [r]) t (clsU r) (clsU r) := by
  have h1 : prev ≤ clsU r := h.ok.1.resolve_left hz
  refine ⟨fun y hy => h.fd y (by simpa using hy), fun y hy => ?_, fun y hy => ?_, Int.le_refl _, h.ok.2⟩
  · rcases List.mem_append.1 hy with hy | hy
    · exact h.nz y hy
    · rw [List.mem_singleton.1 hy]; exact hz
  · rcases List.mem_append.1 hy with hy | hy
    · have := h.le y hy; have := h.lp; omega
    · rw [List.mem_singleton.1 hy]; exact Int.le_refl _
theorem CmpI.take {seg t : List Int} {r last prev : Int} (h : CmpI seg (r :: t) last prev) (hz : clsU r ≠ 0) : CmpI seg t last (clsU r) :=
  ⟨fun y hy => h.fd y (by rcases List.mem_append.1 hy with h | h <;> simp [h]), h.nz, h.le, by have := h.ok.1.resolve_left hz; have := h.lp; omega, h.ok.2⟩
/-- A row's normal forms. -/
def nfdU (l : List Int) : List Int := ordM clsU (apL l)
theorem nfd_len (l : List Int) : (nfdU l).length ≤ 16 * l.length := by
  have := apL_len l
  unfold nfdU
  rw [ordM_len]; exact this

end Go.Proofs.YtncbbgmhmofhnaaDoor.Pr
end

section
namespace Go.Proofs.YtncbbgmhmofhnaaDoor.Pr
open Go.RowKit Go.Proofs.YtncbbgmhmofhnaaDoorW.PrintWords Go.Proofs.YtncbbgmhmofhnaaDoorW.PrintLast Go.Proofs.YtncbbgmhmofhnaaDoorW.PrintMore
set_option linter.unusedVariables false
set_option linter.unusedSimpArgs false

def Ev {α : Type} (f : Nat → Option α) (r : α) : Prop := ∃ K, ∀ k, K ≤ k → f k = some r
theorem Ev.step {α : Type} {f g : Nat → Option α} {r : α} (h : ∀ k, g (k + 1) = f k) (hf : Ev f r) : Ev g r := by
  obtain ⟨K, hK⟩ := hf
  refine ⟨K + 1, fun k hk => ?_⟩
  obtain ⟨k, rfl⟩ : ∃ k', k = k' + 1 := ⟨k - 1, by omega⟩
  rw [h]
  exact hK k (by omega)
theorem Ev.one {α : Type} {g : Nat → Option α} {r : α} (h : ∀ k, g (k + 1) = some r) : Ev g r := ⟨1, fun k hk => by
  obtain ⟨k, rfl⟩ : ∃ k', k = k' + 1 := ⟨k - 1, by omega⟩
  exact h k⟩
theorem Ev.bind {α β : Type} {f : Nat → Option α} {F : Nat → α → Option β} {a : α} {r : β} (hf : Ev f a) (hF : Ev (fun k => F k a) r) : Ev (fun k => (f k).bind (F k)) r := by
  obtain ⟨K, hK⟩ := hf
  obtain ⟨M, hM⟩ := hF
  refine ⟨K + M, fun k hk => ?_⟩
  show (f k).bind (F k) = _
  rw [hK k (by omega)]
  exact hM k (by omega)
theorem Ev.of_eq {α : Type} {f g : Nat → Option α} {r : α} (h : ∀ k, f k = g k) (hg : Ev g r) : Ev f r := by
  obtain ⟨K, hK⟩ := hg
  exact ⟨K, fun k hk => by rw [h]; exact hK k hk⟩
theorem Ev.ex {α : Type} {f : Nat → Option α} {r : α} (h : Ev f r) : ∃ k, f k = some r := by
  obtain ⟨K, hK⟩ := h
  exact ⟨K, hK K (Nat.le_refl _)⟩
theorem Ev.now {α : Type} {f : Nat → Option α} {r : α} (h : ∀ k, f k = some r) : Ev f r := ⟨0, fun k _ => h k⟩
theorem w64n (i : Nat) (h : i ≤ 2147483648) : wrap64 ((i : Int) + 1) = ((i + 1 : Nat) : Int) := by
  rw [IntWalk.wrap64_in _ (by omega)]; omega
theorem rd_app (A B : List Int) (x : Int) : rd (A ++ x :: B) (A.length : Int) = x := by
  simp [rd, List.getD]
end Go.Proofs.YtncbbgmhmofhnaaDoor.Pr
end

section
namespace Go.Proofs.YtncbbgmhmofhnaaDoor.Pr
open Go.RowKit Go.Proofs.YtncbbgmhmofhnaaDoorW.PrintWords Go.Proofs.YtncbbgmhmofhnaaDoorW.PrintLast Go.Proofs.YtncbbgmhmofhnaaDoorW.PrintMore
set_option linter.unusedVariables false
set_option linter.unusedSimpArgs false

theorem nfd_is (l : List Int) (hl : l.length ≤ 60000) : norm_NFD.f l = some (nfdU l) := by unfold norm_NFD.f; rw [if_pos hl]; rfl
end Go.Proofs.YtncbbgmhmofhnaaDoor.Pr
end

section
namespace Go.Proofs.YtncbbgmhmofhnaaDoor.Pr
open Go.RowKit Go.Proofs.YtncbbgmhmofhnaaDoorW.PrintWords Go.Proofs.YtncbbgmhmofhnaaDoorW.PrintLast Go.Proofs.YtncbbgmhmofhnaaDoorW.PrintMore
set_option linter.unusedVariables false
set_option linter.unusedSimpArgs false

def uAll : List S88 := uT0 ++ uT1 ++ uT2
def rAll : List S52 := rT0 ++ rT1 ++ rT2
def toU (x : S52) : S88 := ⟨x.f0, x.f1, x.f2, x.f6, x.f7, x.f8, x.f10, x.f9⟩
theorem toU_all : rAll.map toU = uAll := by kernel_rfl
def inR (r : Int) (x : S52) : Bool := decide (x.f0 ≤ r) && decide (r ≤ x.f1)
def findR (r : Int) : S52 := (rAll.find? (inR r)).getD z52
theorem findR_U (r : Int) : toU (findR r) = findU r := by
  unfold findR
  have h : findU r = ((rAll.map toU).find? (inU r)).getD z88 := by rw [toU_all]; rfl
  rw [h, List.find?_map, show inU r ∘ toU = inR r from rfl]
  cases rAll.find? (inR r) with
  | none => rfl
  | some x => rfl
def rPs : List S86 := rP0 ++ rP1
def toP (x : S86) : S91 := ⟨x.f0, x.f1, x.f2⟩
theorem toP_all : rPs.map toP = uP0 ++ uP1 := by kernel_rfl
theorem wrap_next (i : Nat) (h : i ≤ 1000000) : wrap64 ((i : Int) + 1) = ((i + 1 : Nat) : Int) := by unfold wrap64; omega

def tupR (x : S52) : Int × Int × Int × Int × Int × Int × Int × Int × Int × Bool × Int := (x.f0, x.f1, x.f2, x.f3, x.f4, x.f5, x.f6, x.f7, x.f8, x.f9, x.f10)
theorem find_l0 (k : Nat) (r : Int) (l : List S52) (hl : l.length ≤ 1000) : ∀ d i : Nat, i + d = l.length → portcullisref03_Find.l0 (k + d + 1) r l (i : Int) = some (tupR (((l.drop i).find? (inR r)).getD z52))
  | 0, i, h => by
    unfold portcullisref03_Find.l0
    rw [if_neg (by omega), List.drop_of_length_le (by omega)]
    rfl
  | d + 1, i, h => by
    have hi : i < l.length := by omega
    have ih := find_l0 k r l hl d (i + 1) (by omega)
    have hx : rd_T52 l (i : Int) = l[i] := by unfold rd_T52; simp [hi]
    rw [show k + (d + 1) + 1 = (k + d + 1) + 1 from rfl]
    unfold portcullisref03_Find.l0
    rw [if_pos (by omega), if_pos (by omega), hx, wrap_next i (by omega), ih, List.drop_eq_getElem_cons hi, List.find?_cons]
    by_cases h1 : l[i].f0 ≤ r
    · rw [if_pos h1]
      by_cases h2 : r ≤ l[i].f1
      · rw [if_pos h2, show inR r l[i] = true by unfold inR; simp [h1, h2]]; rfl
      · rw [if_neg h2, show inR r l[i] = false by unfold inR; simp [h2]]
    · rw [if_neg h1, show inR r l[i] = false by unfold inR; simp [h1]]
theorem rows_eq : portcullisref03_Rows.f = some rAll := by kernel_rfl
theorem refFind_eq (k : Nat) (r : Int) : portcullisref03_Find.f (k + 100) r = some (tupR (findR r)) := by
  unfold portcullisref03_Find.f
  rw [rows_eq, Option.bind_some]
  exact find_l0 (k + 11) r rAll (by decide) 88 0 (by decide)
theorem pairs_eq : portcullisref03_Pairs.f = some rPs := by kernel_rfl
def lits (r : Int) : List Int := if r = 8486 then [937] else if r = 8490 then [75] else if r = 8491 then [197] else []
theorem decomp_l0 (k : Nat) (a : Int) (l : List S86) (hl : l.length ≤ 1000) : ∀ d i : Nat, i + d = l.length → portcullisref03_Decomp.l0 (k + d + 1) a l (i : Int) = some (match (l.drop i).find? (fun x => x.f0 == a) with | some x => [x.f1, x.f2] | none => lits a)
  | 0, i, h => by
    unfold portcullisref03_Decomp.l0 lits
    rw [if_neg (by omega), List.drop_of_length_le (by omega)]
    simp only [List.find?_nil]
    split
    · rfl
    split
    · rfl
    split
    · rfl
    rfl
  | d + 1, i, h => by
    have hi : i < l.length := by omega
    have ih := decomp_l0 k a l hl d (i + 1) (by omega)
    have hx : rd_T86 l (i : Int) = l[i] := by unfold rd_T86; simp [hi]
    rw [show k + (d + 1) + 1 = (k + d + 1) + 1 from rfl]
    unfold portcullisref03_Decomp.l0
    rw [if_pos (by omega), if_pos (by omega), hx, wrap_next i (by omega), ih, List.drop_eq_getElem_cons hi, List.find?_cons]
    by_cases h1 : l[i].f0 = a
    · rw [if_pos h1, show (l[i].f0 == a) = true by simp [h1]]
    · rw [if_neg h1, show (l[i].f0 == a) = false by simp [h1]]
theorem no_lits : ((uP0 ++ uP1).all fun x => x.f0 != 8486 && x.f0 != 8490 && x.f0 != 8491) = true := by decide +kernel
theorem refDecomp_eq (k : Nat) (a : Int) : portcullisref03_Decomp.f (k + 100) a = unidata_Decomp.f a := by
  unfold portcullisref03_Decomp.f unidata_Decomp.f
  rw [pairs_eq, Option.bind_some]
  rw [show k + 100 = (k + 19) + 80 + 1 from rfl]
  have h := decomp_l0 (k + 19) a rPs (by decide) 80 0 (by decide)
  rw [List.drop_zero] at h
  refine h.trans ?_
  unfold ofP lits
  rw [← toP_all, List.find?_map, show (fun x : S91 => x.f0 == a) ∘ toP = (fun x => x.f0 == a) from rfl]
  cases hf : rPs.find? (fun x => x.f0 == a) with
  | none => simp
  | some x =>
    have h0 : x.f0 = a := by simpa using List.find?_some hf
    have h1 := List.all_eq_true.1 no_lits (toP x) (by rw [← toP_all]; exact List.mem_map_of_mem (List.mem_of_find?_eq_some hf))
    simp [toP, h0, and_assoc] at h1
    simp [h1.1, h1.2.1, h1.2.2, toP]
end Go.Proofs.YtncbbgmhmofhnaaDoor.Pr
end

section
namespace Go.Proofs.YtncbbgmhmofhnaaDoor.Pr
open Go.RowKit Go.Proofs.YtncbbgmhmofhnaaDoorW.PrintWords Go.Proofs.YtncbbgmhmofhnaaDoorW.PrintLast Go.Proofs.YtncbbgmhmofhnaaDoorW.PrintMore
set_option linter.unusedVariables false
set_option linter.unusedSimpArgs false

theorem Ev.stepG {α : Type} {f g : Nat → Option α} {r : α} (K0 : Nat) (h : ∀ k, K0 ≤ k → g (k + 1) = f k) (hf : Ev f r) : Ev g r := by
  obtain ⟨K, hK⟩ := hf
  refine ⟨K + K0 + 1, fun k hk => ?_⟩
  obtain ⟨k, rfl⟩ : ∃ k', k = k' + 1 := ⟨k - 1, by omega⟩
  rw [h k (by omega)]
  exact hK k (by omega)
theorem class_R (r : Int) : (findR r).f8 = clsU r := by
  have := findR_U r
  unfold clsU
  rw [← this]
  rfl
theorem refClass_eq (k : Nat) (hk : 100 ≤ k) (r : Int) : portcullisref04_class.f k r = some (clsU r) := by
  obtain ⟨k, rfl⟩ : ∃ k', k = k' + 100 := ⟨k - 100, by omega⟩
  unfold portcullisref04_class.f
  rw [refFind_eq, Option.bind_some]
  show some (findR r).f8 = _
  rw [class_R]
theorem refDec (k : Nat) (hk : 100 ≤ k) (r : Int) : portcullisref03_Decomp.f k r = some (decU r) := by
  obtain ⟨k, rfl⟩ : ∃ k', k = k' + 100 := ⟨k - 100, by omega⟩
  rw [refDecomp_eq, decU_f]
def invU : List Int → Nat
  | [] => 0
  | x :: t => t.countP (fun y => decide (clsU y ≠ 0 ∧ clsU y < clsU x)) + invU t
theorem inv_swap {a b : Int} (h0 : clsU b ≠ 0) (h : clsU b < clsU a) : ∀ P Q : List Int, invU (P ++ a :: b :: Q) = invU (P ++ b :: a :: Q) + 1
  | [], Q => by
    show invU (a :: b :: Q) = invU (b :: a :: Q) + 1
    have c1 : decide (clsU b ≠ 0 ∧ clsU b < clsU a) = true := decide_eq_true ⟨h0, h⟩
    have c2 : decide (clsU a ≠ 0 ∧ clsU a < clsU b) = false := decide_eq_false (by omega)
    simp only [invU, List.countP_cons, c1, c2]
    simp
    omega
  | x :: P, Q => by
    have ih := inv_swap h0 h P Q
    have hp : (P ++ a :: b :: Q).Perm (P ++ b :: a :: Q) := List.Perm.append_left P (List.Perm.swap b a Q)
    show invU (x :: (P ++ a :: b :: Q)) = invU (x :: (P ++ b :: a :: Q)) + 1
    simp only [invU]
    rw [ih, hp.countP_eq]
    omega
theorem order_step (L : List Int) (again : Bool) (p : Int) (k : Nat) (h0 : 1 ≤ p) (h1 : p < (L.length : Int)) (hl : L.length ≤ 1000000) (hk : 100 ≤ k) :
    portcullisref04_Order.l1 (k + 1) L again p =
      if clsU (rd L p) = 0 then portcullisref04_Order.l1 k L again (p + 1) else if clsU (rd L (p - 1)) > clsU (rd L p) then portcullisref04_Order.l1 k ((L.set (p - 1).toNat (rd L p)).set p.toNat (rd L (p - 1))) true (p + 1) else portcullisref04_Order.l1 k L again (p + 1) := by
  have hw1 : wrap64 (p - 1) = p - 1 := IntWalk.wrap64_in _ (by omega)
  have hw2 : wrap64 (p + 1) = p + 1 := IntWalk.wrap64_in _ (by omega)
  rw [portcullisref04_Order.l1, if_pos h1, hw1, if_pos (by omega), if_pos (by omega), refClass_eq k hk, Option.bind_some, if_pos (by omega), refClass_eq k hk, Option.bind_some, hw2]
theorem set_two (x y : Int) (t : List Int) : ∀ pre : List Int, ((pre ++ x :: y :: t).set pre.length y).set (pre.length + 1) x = pre ++ y :: x :: t
  | [] => rfl
  | z :: pre => by
    have := set_two x y t pre
    show z :: (((pre ++ x :: y :: t).set pre.length y).set (pre.length + 1) x) = _
    rw [this]
    rfl
theorem order_pass (n m : Nat) (hm : m ≤ 1000000) (IH : ∀ L, invU L < n → L.length = m → Ev (fun k => portcullisref04_Order.l0 k L true) (ordM clsU L)) :
    ∀ (rest pre : List Int) (x : Int) (again : Bool) (L : List Int), L = pre ++ x :: rest → L.length = m → (again = true → invU L < n) → (again = false → invU L ≤ n ∧ SrtR clsU (x :: pre.reverse)) →
      Ev (fun k => portcullisref04_Order.l1 k L again (((pre ++ [x]).length : Nat) : Int)) (ordM clsU L)
  | [], pre, x, again, L, hL, hlm, ht, hf => by
    have hl : L.length = (pre ++ [x]).length := by rw [hL]
    refine Ev.step (f := fun k => portcullisref04_Order.l0 k L again) (fun k => by rw [portcullisref04_Order.l1, if_neg (by omega)]) ?_
    cases again with
    | true => exact IH L (ht rfl) hlm
    | false =>
      have : ordM clsU L = L := ordM_srt clsU L (by rw [hL]; simpa using (hf rfl).2)
      rw [this]
      exact Ev.one fun k => by rw [portcullisref04_Order.l0, if_neg (by decide)]
  | y :: t, pre, x, again, L, hL, hlm, ht, hf => by
    have hlen : L.length = pre.length + (t.length + 2) := by rw [hL]; simp
    have hpl : (pre ++ [x]).length = pre.length + 1 := by simp
    have hx : rd L (pre.length : Int) = x := by rw [hL]; exact rd_app pre _ x
    have hy : rd L (((pre ++ [x]).length : Nat) : Int) = y := by
      have : L = (pre ++ [x]) ++ y :: t := by rw [hL]; simp
      rw [this]; exact rd_app _ _ y
    have hp1 : (((pre ++ [x]).length : Nat) : Int) - 1 = (pre.length : Int) := by omega
    have hp2 : (((pre ++ [x]).length : Nat) : Int) + 1 = (((pre ++ [x]).length + 1 : Nat) : Int) := by omega
    have hset : ((L.set ((pre.length : Int)).toNat y).set (((pre ++ [x]).length : Nat) : Int).toNat x) = pre ++ y :: x :: t := by
      rw [Int.toNat_natCast, Int.toNat_natCast, hpl, hL]
      exact set_two x y t pre
    have hs : ∀ k, 100 ≤ k → portcullisref04_Order.l1 (k + 1) L again (((pre ++ [x]).length : Nat) : Int) =
        if clsU y = 0 then portcullisref04_Order.l1 k L again (((pre ++ [x]).length + 1 : Nat) : Int) else if clsU x > clsU y then portcullisref04_Order.l1 k (pre ++ y :: x :: t) true (((pre ++ [x]).length + 1 : Nat) : Int) else portcullisref04_Order.l1 k L again (((pre ++ [x]).length + 1 : Nat) : Int) := fun k hk => by
      rw [order_step L again _ k (by omega) (by omega) (by omega) hk, hp1, hp2, hx, hy, hset]
    by_cases c : clsU y ≠ 0 ∧ clsU y < clsU x
    · have e : ordM clsU L = ordM clsU (pre ++ y :: x :: t) := by rw [hL]; exact ordM_swap clsU c.1 c.2 clsU_pos pre t
      have hi : invU (pre ++ y :: x :: t) < n := by
        have h1 := inv_swap c.1 c.2 pre t
        rw [← hL] at h1
        cases again with
        | true => have := ht rfl; omega
        | false => have := (hf rfl).1; omega
      rw [e]
      have h2 := order_pass n m hm IH t (pre ++ [y]) x true (pre ++ y :: x :: t) (by simp) (by rw [← hlm, hL]; simp) (fun _ => hi) (fun h => by cases h)
      refine Ev.stepG 100 (fun k hk => ?_) h2
      rw [hs k hk, if_neg c.1, if_pos c.2]
      simp only [List.length_append, List.length_cons, List.length_nil]
    · have h2 := order_pass n m hm IH t (pre ++ [x]) y again L (by rw [hL]; simp) hlm ht (fun h => ⟨(hf h).1, by
        have h3 := (hf h).2
        rw [List.reverse_append]
        exact ⟨c, h3⟩⟩)
      refine Ev.stepG 100 (fun k hk => ?_) h2
      rw [hs k hk]
      by_cases c0 : clsU y = 0
      · rw [if_pos c0]; simp only [List.length_append, List.length_cons, List.length_nil]
      · rw [if_neg c0, if_neg (by omega)]; simp only [List.length_append, List.length_cons, List.length_nil]
theorem order_l0 : ∀ (n : Nat) (L : List Int), invU L ≤ n → L.length ≤ 1000000 → Ev (fun k => portcullisref04_Order.l0 k L true) (ordM clsU L) := by
  intro n
  induction n using Nat.strongRecOn with
  | _ n ih =>
    intro L hi hl
    cases L with
    | nil =>
      refine Ev.step (f := fun k => portcullisref04_Order.l1 k [] false 1) (fun k => by rw [portcullisref04_Order.l0, if_pos rfl]) ?_
      refine Ev.step (f := fun k => portcullisref04_Order.l0 k [] false) (fun k => by rw [portcullisref04_Order.l1, if_neg (by decide)]) ?_
      exact Ev.one fun k => by rw [portcullisref04_Order.l0, if_neg (by decide)]; rfl
    | cons x t =>
      have h := order_pass n (x :: t).length hl (fun L' h1 h2 => ih (invU L') h1 L' (Nat.le_refl _) (by omega)) t [] x false (x :: t) rfl rfl (fun h => by cases h) (fun _ => ⟨hi, trivial⟩)
      refine Ev.step (fun k => ?_) h
      rw [portcullisref04_Order.l0, if_pos rfl]
      rfl
theorem refOrder_is (l : List Int) (h : l.length ≤ 1000000) : Ev (fun k => portcullisref04_Order.f k l) (ordM clsU l) := by
  refine Ev.of_eq (fun k => ?_) (order_l0 (invU l) l (Nat.le_refl _) h)
  unfold portcullisref04_Order.f
  rw [if_pos (by simp; omega), List.nil_append]

theorem refApart_l0 (j : Nat) (hj : j ≤ 5) (d : List Int) (hd : d.length ≤ 1000000) : ∀ (rest pre acc : List Int), d = pre ++ rest → acc.length + 32 * rest.length ≤ 100000000 → (∀ x ∈ rest, Ev (fun k => portcullisref04_apart.f k x) (apartK j x)) →
    Ev (fun k => portcullisref04_apart.l0 k d acc (pre.length : Int)) (acc ++ rest.flatMap (apartK j))
  | [], pre, acc, h, ha, hx => by
    rw [List.flatMap_nil, List.append_nil]
    exact Ev.one fun k => by rw [portcullisref04_apart.l0, if_neg (by rw [h]; simp)]
  | x :: rest, pre, acc, h, ha, hx => by
    have hr : rd d (pre.length : Int) = x := by rw [h]; exact rd_app pre _ x
    have hl : d.length = pre.length + (rest.length + 1) := by rw [h]; simp
    have hlx := apart_len j x
    have hp2 : 2 ^ j ≤ 2 ^ 5 := Nat.pow_le_pow_right (by omega) hj
    have hw : wrap64 ((pre.length : Int) + 1) = (((pre ++ [x]).length : Nat) : Int) := by rw [w64n _ (by omega)]; simp
    obtain ⟨K, hK⟩ := hx x List.mem_cons_self
    simp only [List.length_cons] at ha
    have ih := refApart_l0 j hj d hd rest (pre ++ [x]) (acc ++ apartK j x) (by rw [h]; simp) (by rw [List.length_append]; omega) (fun y hy => hx y (List.mem_cons_of_mem _ hy))
    rw [List.flatMap_cons, ← List.append_assoc]
    refine Ev.stepG K (fun k hk => ?_) ih
    have e := hK k hk
    simp only at e
    rw [portcullisref04_apart.l0, if_pos (by omega), if_pos (by omega), hr, e, Option.bind_some, if_pos (by omega), hw]
theorem refApart_is : ∀ (j : Nat), j ≤ 5 → ∀ (r : Int), Dep j r → Ev (fun k => portcullisref04_apart.f k r) (apartK j r) := by
  intro j
  induction j with
  | zero =>
    intro hj r h
    refine ⟨101, fun k hk => ?_⟩
    obtain ⟨k, rfl⟩ : ∃ k', k = k' + 1 := ⟨k - 1, by omega⟩
    show portcullisref04_apart.f (k + 1) r = _
    have h' : decU r = [] := h
    rw [portcullisref04_apart.f, refDec k (by omega), Option.bind_some, h', if_pos (by rfl)]
    rfl
  | succ j ih =>
    intro hj r h
    by_cases e : decU r = []
    · refine ⟨101, fun k hk => ?_⟩
      obtain ⟨k, rfl⟩ : ∃ k', k = k' + 1 := ⟨k - 1, by omega⟩
      show portcullisref04_apart.f (k + 1) r = _
      rw [portcullisref04_apart.f, refDec k (by omega), Option.bind_some, e, if_pos (by rfl), apartK_nil e]
    · have hl := decU_len r
      have h1 := refApart_l0 j (by omega) (decU r) (by omega) (decU r) [] [] rfl (by simp; omega) (fun x hx => ih (by omega) x (h x hx))
      have e2 : apartK (j + 1) r = [] ++ (decU r).flatMap (apartK j) := by rw [apartK, if_neg e]; rfl
      rw [e2]
      refine Ev.stepG 100 (fun k hk => ?_) h1
      have hne : ¬ ((decU r).length : Int) = 0 := fun h0 => e (List.length_eq_zero_iff.1 (by omega))
      rw [portcullisref04_apart.f, refDec k hk, Option.bind_some, if_neg hne]
      rfl
theorem refNFD_l0 (d : List Int) (hd : d.length ≤ 60000) : ∀ (rest pre : List Int), d = pre ++ rest → Ev (fun k => portcullisref04_NFD.l0 k d (apL pre) (pre.length : Int)) (nfdU d)
  | [], pre, h => by
    have e : d = pre := by rw [h]; simp
    have hl := apL_len pre
    have hlp : pre.length ≤ 60000 := by rw [← e]; exact hd
    obtain ⟨K, hK⟩ := refOrder_is (apL pre) (by omega)
    refine Ev.stepG (f := fun _ => some (nfdU d)) K (fun k hk => ?_) (Ev.now fun _ => rfl)
    have e1 := hK k hk
    simp only at e1
    rw [portcullisref04_NFD.l0, if_neg (by rw [e]; omega), e1, Option.bind_some, e]
    rfl
  | x :: rest, pre, h => by
    have hr : rd d (pre.length : Int) = x := by rw [h]; exact rd_app pre _ x
    have hl : d.length = pre.length + (rest.length + 1) := by rw [h]; simp
    have hlx := apart_len 4 x
    have hla := apL_len pre
    have hw : wrap64 ((pre.length : Int) + 1) = (((pre ++ [x]).length : Nat) : Int) := by rw [w64n _ (by omega)]; simp
    obtain ⟨K, hK⟩ := refApart_is 4 (by omega) x (dep4 x)
    have ih := refNFD_l0 d hd rest (pre ++ [x]) (by rw [h]; simp)
    refine Ev.stepG K (fun k hk => ?_) ih
    have e := hK k hk
    simp only at e
    have ea : apL (pre ++ [x]) = apL pre ++ apartK 4 x := by rw [apL_append]; simp [apL]
    rw [portcullisref04_NFD.l0, if_pos (by omega), if_pos (by omega), hr, e, Option.bind_some, if_pos (by omega), hw, ea]
theorem refNFD_is (l : List Int) (h : l.length ≤ 60000) : Ev (fun k => portcullisref04_NFD.f k l) (nfdU l) := by
  have := refNFD_l0 l h l [] rfl
  exact Ev.of_eq (fun k => by unfold portcullisref04_NFD.f; rfl) this

end Go.Proofs.YtncbbgmhmofhnaaDoor.Pr
end

section
namespace Go.Proofs.YtncbbgmhmofhnaaDoor.Pr
open Go.RowKit Go.Proofs.YtncbbgmhmofhnaaDoorW.PrintWords Go.Proofs.YtncbbgmhmofhnaaDoorW.PrintLast Go.Proofs.YtncbbgmhmofhnaaDoorW.PrintMore
set_option linter.unusedVariables false
set_option linter.unusedSimpArgs false

def ints (t : List UInt8) : List Int := t.map fun c => (c.toNat : Int)
theorem strOfNums_ints (t : List UInt8) : strOfNums (ints t) = mkB t := by
  unfold strOfNums ints mkB
  rw [List.map_map]
  have e2 : t.map ((fun n : Int => UInt8.ofNat n.toNat) ∘ fun c : UInt8 => (c.toNat : Int)) = t := by
    conv => rhs; rw [← List.map_id t]
    exact List.map_congr_left fun c _ => by simp
  rw [e2]
theorem bt_mkB (s : List UInt8) (i : Nat) (h : i < s.length) : bt (mkB s) (i : Int) = (s[i].toNat : Int) := by
  have hs : (i : Int).toNat < (mkB s).size := by rw [mkB_size]; exact h
  rw [← bt_at (mkB s) (i : Int) hs]
  have e : (mkB s).data.toList[i]? = some ((mkB s)[(i : Int).toNat]'hs) := by
    have := Lib.data_getElem? (mkB s) i (by rw [mkB_size]; exact h)
    exact this
  rw [data_mkB, List.getElem?_eq_getElem h] at e
  rw [← Option.some.inj e]
theorem ext_take (t : List UInt8) (m : Nat) : (mkB t).extract 0 m = mkB (t.take m) := by
  apply ByteArray.ext
  rw [ByteArray.data_extract]
  unfold mkB
  simp
theorem ext_drop (t : List UInt8) (m : Nat) : (mkB t).extract m (mkB t).size = mkB (t.drop m) := by
  apply ByteArray.ext
  rw [ByteArray.data_extract, mkB_size]
  unfold mkB
  simp [List.take_of_length_le]
theorem str_inj {xs : List Int} (hx : ∀ x ∈ xs, 0 ≤ x ∧ x < 256) (t : List UInt8) : ((strOfNums xs).toList == (mkB t).toList) = decide (xs = ints t) := by
  have e : xs = ints (xs.map fun x => x.toNat.toUInt8) := by
    unfold ints
    rw [List.map_map]
    symm
    conv => rhs; rw [← List.map_id xs]
    refine List.map_congr_left fun x h => ?_
    have := hx x h
    simp
    omega
  generalize (xs.map fun x => x.toNat.toUInt8) = u at e
  subst e
  rw [strOfNums_ints, Lib.toList_data, Lib.toList_data, data_mkB, data_mkB]
  have hinj : ints u = ints t ↔ u = t := by
    constructor
    · intro h
      have h2 := congrArg (List.map fun x : Int => x.toNat.toUInt8) h
      unfold ints at h2
      rw [List.map_map, List.map_map] at h2
      have hid : ((fun x : Int => x.toNat.toUInt8) ∘ fun c : UInt8 => (c.toNat : Int)) = id := by
        funext c
        simp
      rw [hid, List.map_id, List.map_id] at h2
      exact h2
    · rintro rfl; rfl
  rw [decide_eq_decide.2 hinj]
  by_cases h : u = t
  · rw [decide_eq_true h, h]; simp
  · rw [decide_eq_false h]
    exact beq_eq_false_iff_ne.2 h

def v2 (a b : Int) : Int := (a - 192) * 64 + b - 128
def v3 (a b c : Int) : Int := ((a - 224) * 64 + b - 128) * 64 + c - 128
def v4 (a b c d : Int) : Int := (((a - 240) * 64 + b - 128) * 64 + c - 128) * 64 + d - 128
def P2 (a b : Int) : Prop := 194 ≤ a ∧ a ≤ 223 ∧ 128 ≤ b ∧ b ≤ 191
def P3 (a b : Int) : Prop := 224 ≤ a ∧ a ≤ 239 ∧ 128 ≤ b ∧ b ≤ 191 ∧ (a = 224 → 160 ≤ b) ∧ (a = 237 → b ≤ 159)
def P4 (a b : Int) : Prop := 240 ≤ a ∧ a ≤ 244 ∧ 128 ≤ b ∧ b ≤ 191 ∧ (a = 240 → 144 ≤ b) ∧ (a = 244 → b ≤ 143)
def C8 (c : Int) : Prop := 128 ≤ c ∧ c ≤ 191
instance (a b : Int) : Decidable (P2 a b) := by unfold P2; infer_instance
instance (a b : Int) : Decidable (P3 a b) := by unfold P3; infer_instance
instance (a b : Int) : Decidable (P4 a b) := by unfold P4; infer_instance
instance (c : Int) : Decidable (C8 c) := by unfold C8; infer_instance
abbrev ub (a : UInt8) : Int := (a.toNat : Int)
theorem ub_rng (a : UInt8) : 0 ≤ ub a ∧ ub a ≤ 255 := by
  have := a.toNat_lt
  unfold ub
  omega
def nxL : List UInt8 → Int × Int × Bool
  | [] => (0, 0, false)
  | [a] => if ub a < 128 then (ub a, 1, true) else (65533, 1, false)
  | [a, b] => if ub a < 128 then (ub a, 1, true) else if P2 (ub a) (ub b) then (v2 (ub a) (ub b), 2, true) else if P3 (ub a) (ub b) ∨ P4 (ub a) (ub b) then (65533, 2, false) else (65533, 1, false)
  | [a, b, c] => if ub a < 128 then (ub a, 1, true) else if P2 (ub a) (ub b) then (v2 (ub a) (ub b), 2, true)
      else if P3 (ub a) (ub b) then (if C8 (ub c) then (v3 (ub a) (ub b) (ub c), 3, true) else (65533, 2, false))
      else if P4 (ub a) (ub b) then (if C8 (ub c) then (65533, 3, false) else (65533, 2, false)) else (65533, 1, false)
  | a :: b :: c :: d :: _ => if ub a < 128 then (ub a, 1, true) else if P2 (ub a) (ub b) then (v2 (ub a) (ub b), 2, true)
      else if P3 (ub a) (ub b) then (if C8 (ub c) then (v3 (ub a) (ub b) (ub c), 3, true) else (65533, 2, false))
      else if P4 (ub a) (ub b) then (if C8 (ub c) then (if C8 (ub d) then (v4 (ub a) (ub b) (ub c) (ub d), 4, true) else (65533, 3, false)) else (65533, 2, false)) else (65533, 1, false)

def Scal (c : Int) : Prop := 0 ≤ c ∧ c ≤ 1114111 ∧ (c < 55296 ∨ 57343 < c)
instance (c : Int) : Decidable (Scal c) := by unfold Scal; infer_instance
theorem scalar_is (c : Int) : portcullisref01_Scalar.f c = some (decide (Scal c)) := by
  unfold portcullisref01_Scalar.f
  by_cases h1 : c ≥ 0
  · by_cases h2 : c ≤ 1114111
    · by_cases h3 : c < 55296
      · rw [if_pos h1, if_pos h2, if_pos h3, decide_eq_true (show Scal c from ⟨h1, h2, .inl h3⟩)]
      · rw [if_pos h1, if_pos h2, if_neg h3]
        congr 1
        rw [decide_eq_decide]
        unfold Scal
        omega
    · rw [if_pos h1, if_neg h2, decide_eq_false (fun h => h2 h.2.1)]
  · rw [if_neg h1, decide_eq_false (fun h => h1 h.1)]
theorem w32 (n : Int) (h : -2147483648 ≤ n ∧ n ≤ 2147483647) : wrap32 n = n := IntWalk.wrap32_in n h
theorem bytes_is (c : Int) (h : Scal c) : portcullisref01_Bytes.f c = some (strOfNums (Lib.encodeRuneZ c)) := by
  unfold Scal at h
  have e1 : Int.tdiv c 64 = c / 64 := Int.tdiv_eq_ediv_of_nonneg (by omega)
  have e2 : Int.tdiv c 4096 = c / 4096 := Int.tdiv_eq_ediv_of_nonneg (by omega)
  have e3 : Int.tdiv c 262144 = c / 262144 := Int.tdiv_eq_ediv_of_nonneg (by omega)
  have f1 : Int.tmod c 64 = c % 64 := Int.tmod_eq_emod_of_nonneg (by omega)
  have f2 : Int.tmod (c / 64) 64 = c / 64 % 64 := Int.tmod_eq_emod_of_nonneg (by omega)
  have f3 : Int.tmod (c / 4096) 64 = c / 4096 % 64 := Int.tmod_eq_emod_of_nonneg (by omega)
  unfold portcullisref01_Bytes.f
  rw [e1, e2, e3, f1, w32 (c / 64) (by omega), w32 (c / 4096) (by omega), w32 (c / 262144) (by omega), f2, f3]
  by_cases h1 : c < 128
  · rw [if_pos h1, if_pos (by decide), Lib.encodeRuneZ_one h.1 (by omega), List.nil_append, show c % 256 = c by omega]
  · rw [if_neg h1]
    by_cases h2 : c < 2048
    · rw [if_pos h2, Option.bind_some, if_pos (by simp), Lib.encodeRuneZ_two (by omega) (by omega), List.nil_append, w32 (192 + c / 64) (by omega), w32 (128 + c % 64) (by omega), show (192 + c / 64) % 256 = 192 + c / 64 by omega, show (128 + c % 64) % 256 = 128 + c % 64 by omega]
    · rw [if_neg h2]
      by_cases h3 : c < 65536
      · rw [if_pos h3, Option.bind_some, if_pos (by simp), Lib.encodeRuneZ_three (by omega), List.nil_append, w32 (224 + c / 4096) (by omega), w32 (128 + c / 64 % 64) (by omega), w32 (128 + c % 64) (by omega), show (224 + c / 4096) % 256 = 224 + c / 4096 by omega, show (128 + c / 64 % 64) % 256 = 128 + c / 64 % 64 by omega, show (128 + c % 64) % 256 = 128 + c % 64 by omega]
      · rw [if_neg h3, Option.bind_some, if_pos (by simp), Lib.encodeRuneZ_four (by omega) (by omega), List.nil_append, w32 (240 + c / 262144) (by omega), w32 (128 + c / 4096 % 64) (by omega), w32 (128 + c / 64 % 64) (by omega), w32 (128 + c % 64) (by omega), show (240 + c / 262144) % 256 = 240 + c / 262144 by omega, show (128 + c / 4096 % 64) % 256 = 128 + c / 4096 % 64 by omega, show (128 + c / 64 % 64) % 256 = 128 + c / 64 % 64 by omega, show (128 + c % 64) % 256 = 128 + c % 64 by omega]
theorem value_l0 (k : Nat) (t : List UInt8) (x : Int) (i : Nat) (hi : i < t.length) (hl : t.length ≤ 4) (hx : -1000000 ≤ x ∧ x ≤ 1000000) :
    portcullisref01_value.l0 (k + 1) (mkB t) x (i : Int) = portcullisref01_value.l0 k (mkB t) (x * 64 + ub t[i] - 128) ((i + 1 : Nat) : Int) := by
  have hb := ub_rng t[i]
  rw [portcullisref01_value.l0, if_pos (by rw [mkB_size]; omega), if_pos (by omega), bt_mkB t i hi]
  show portcullisref01_value.l0 k (mkB t) (wrap32 (wrap32 (wrap32 (x * 64) + wrap32 (ub t[i])) - 128)) _ = _
  rw [w32 (x * 64) (by omega), w32 (ub t[i]) (by omega), w32 (x * 64 + ub t[i]) (by omega), w32 _ (by omega), w64n i (by omega)]
theorem value_end (k : Nat) (t : List UInt8) (x : Int) (i : Nat) (hi : i = t.length) : portcullisref01_value.l0 (k + 1) (mkB t) x (i : Int) = some x := by
  rw [portcullisref01_value.l0, if_neg (by rw [mkB_size]; omega)]
def valL : List UInt8 → Int
  | [a] => ub a
  | [a, b] => v2 (ub a) (ub b)
  | [a, b, c] => v3 (ub a) (ub b) (ub c)
  | [a, b, c, d] => v4 (ub a) (ub b) (ub c) (ub d)
  | _ => 0
theorem value_is (k : Nat) (t : List UInt8) (h0 : 1 ≤ t.length) (h4 : t.length ≤ 4) : portcullisref01_value.f (k + 5) (mkB t) = some (valL t) := by
  have hz : ∀ (u : List UInt8) (h : 0 < u.length), bt (mkB u) 0 = ub u[0] := fun u h => bt_mkB u 0 h
  match t, h0, h4 with
  | [a], _, _ =>
    have ha := ub_rng a
    have hsz : ((mkB [a]).size : Int) = 1 := by rw [mkB_size]; rfl
    unfold portcullisref01_value.f
    rw [hsz, if_pos (by decide), if_neg (by decide), if_neg (by decide), if_neg (by decide), hz _ (by simp), portcullisref01_value.j0]
    show portcullisref01_value.l0 (k + 3 + 1) (mkB [a]) (wrap32 (ub a)) ((1 : Nat) : Int) = _
    rw [w32 (ub a) (by omega)]
    exact value_end (k + 3) [a] _ 1 rfl
  | [a, b], _, _ =>
    have ha := ub_rng a
    have hsz : ((mkB [a, b]).size : Int) = 2 := by rw [mkB_size]; rfl
    unfold portcullisref01_value.f
    rw [hsz, if_pos (by decide), if_pos (by decide), hz _ (by simp), portcullisref01_value.j0]
    show portcullisref01_value.l0 (k + 3 + 1) (mkB [a, b]) (wrap32 (wrap32 (ub a) - 192)) ((1 : Nat) : Int) = _
    rw [w32 (ub a) (by omega), w32 (ub a - 192) (by omega), value_l0 _ _ _ _ (by simp) (by simp) (by omega)]
    exact value_end (k + 2) [a, b] _ 2 rfl
  | [a, b, c], _, _ =>
    have ha := ub_rng a
    have hb := ub_rng b
    have hsz : ((mkB [a, b, c]).size : Int) = 3 := by rw [mkB_size]; rfl
    unfold portcullisref01_value.f
    rw [hsz, if_pos (by decide), if_neg (by decide), if_pos (by decide), hz _ (by simp), portcullisref01_value.j0]
    show portcullisref01_value.l0 (k + 3 + 1) (mkB [a, b, c]) (wrap32 (wrap32 (ub a) - 224)) ((1 : Nat) : Int) = _
    rw [w32 (ub a) (by omega), w32 (ub a - 224) (by omega), value_l0 _ _ _ _ (by simp) (by simp) (by omega)]
    show portcullisref01_value.l0 (k + 2 + 1) (mkB [a, b, c]) ((ub a - 224) * 64 + ub b - 128) ((2 : Nat) : Int) = _
    rw [value_l0 _ _ _ _ (by simp) (by simp) (by omega)]
    exact value_end (k + 1) [a, b, c] _ 3 rfl
  | [a, b, c, d], _, _ =>
    have ha := ub_rng a
    have hb := ub_rng b
    have hc := ub_rng c
    have hsz : ((mkB [a, b, c, d]).size : Int) = 4 := by rw [mkB_size]; rfl
    unfold portcullisref01_value.f
    rw [hsz, if_pos (by decide), if_neg (by decide), if_neg (by decide), if_pos (by decide), hz _ (by simp), portcullisref01_value.j0]
    show portcullisref01_value.l0 (k + 3 + 1) (mkB [a, b, c, d]) (wrap32 (wrap32 (ub a) - 240)) ((1 : Nat) : Int) = _
    rw [w32 (ub a) (by omega), w32 (ub a - 240) (by omega), value_l0 _ _ _ _ (by simp) (by simp) (by omega)]
    show portcullisref01_value.l0 (k + 2 + 1) (mkB [a, b, c, d]) ((ub a - 240) * 64 + ub b - 128) ((2 : Nat) : Int) = _
    rw [value_l0 _ _ _ _ (by simp) (by simp) (by omega)]
    show portcullisref01_value.l0 (k + 1 + 1) (mkB [a, b, c, d]) (((ub a - 240) * 64 + ub b - 128) * 64 + ub c - 128) ((3 : Nat) : Int) = _
    rw [value_l0 _ _ _ _ (by simp) (by simp) (by omega)]
    exact value_end (k + 0) [a, b, c, d] _ 4 rfl
def Whole (t : List UInt8) : Prop := Scal (valL t) ∧ Lib.encodeRuneZ (valL t) = ints t
instance (t : List UInt8) : Decidable (Whole t) := by unfold Whole; infer_instance
theorem whole_is (k : Nat) (t : List UInt8) (h0 : 1 ≤ t.length) (h4 : t.length ≤ 4) : portcullisref01_whole.f (k + 5) (mkB t) = some (decide (Whole t)) := by
  unfold portcullisref01_whole.f
  rw [value_is k t h0 h4, Option.bind_some, scalar_is, Option.bind_some]
  by_cases h : Scal (valL t)
  · rw [if_pos (decide_eq_true h), bytes_is _ h, Option.bind_some, str_inj (Lib.encodeRuneZ_byte _)]
    congr 1
    rw [decide_eq_decide]
    exact ⟨fun e => ⟨h, e⟩, fun e => e.2⟩
  · rw [if_neg (by rw [decide_eq_false h]; decide), decide_eq_false (fun e => h e.1)]
theorem ints1 (a : UInt8) : ints [a] = [ub a] := rfl
theorem ints2 (a b : UInt8) : ints [a, b] = [ub a, ub b] := rfl
theorem ints3 (a b c : UInt8) : ints [a, b, c] = [ub a, ub b, ub c] := rfl
theorem ints4 (a b c d : UInt8) : ints [a, b, c, d] = [ub a, ub b, ub c, ub d] := rfl
theorem whole1 (a : UInt8) : Whole [a] ↔ ub a < 128 := by
  have ha := ub_rng a
  unfold Whole
  rw [ints1]
  show Scal (ub a) ∧ Lib.encodeRuneZ (ub a) = [ub a] ↔ ub a < 128
  unfold Scal
  constructor
  · rintro ⟨h, e⟩
    false_or_by_contra
    rw [Lib.encodeRuneZ_two (by omega) (by omega)] at e
    simp at e
  · intro h
    exact ⟨by omega, Lib.encodeRuneZ_one (by omega) (by omega)⟩
theorem encZ_cases {c : Int} (h : Scal c) : (c ≤ 127 ∧ Lib.encodeRuneZ c = [c]) ∨ (128 ≤ c ∧ c ≤ 2047 ∧ Lib.encodeRuneZ c = [192 + c / 64, 128 + c % 64]) ∨
    (2048 ≤ c ∧ c ≤ 65535 ∧ Lib.encodeRuneZ c = [224 + c / 4096, 128 + c / 64 % 64, 128 + c % 64]) ∨ (65536 ≤ c ∧ Lib.encodeRuneZ c = [240 + c / 262144, 128 + c / 4096 % 64, 128 + c / 64 % 64, 128 + c % 64]) := by
  unfold Scal at h
  by_cases h1 : c ≤ 127
  · exact .inl ⟨h1, Lib.encodeRuneZ_one h.1 h1⟩
  · by_cases h2 : c ≤ 2047
    · exact .inr (.inl ⟨by omega, h2, Lib.encodeRuneZ_two (by omega) h2⟩)
    · by_cases h3 : c ≤ 65535
      · exact .inr (.inr (.inl ⟨by omega, h3, Lib.encodeRuneZ_three (by omega)⟩))
      · exact .inr (.inr (.inr ⟨by omega, Lib.encodeRuneZ_four (by omega) h.2.1⟩))
theorem whole2 (a b : UInt8) : Whole [a, b] ↔ P2 (ub a) (ub b) := by
  have ha := ub_rng a
  have hb := ub_rng b
  unfold Whole
  rw [ints2]
  show Scal (v2 (ub a) (ub b)) ∧ Lib.encodeRuneZ (v2 (ub a) (ub b)) = [ub a, ub b] ↔ _
  generalize ub a = a at *
  generalize ub b = b at *
  constructor
  · rintro ⟨h, e⟩
    rcases encZ_cases h with ⟨h1, e1⟩ | ⟨h1, h2, e1⟩ | ⟨h1, h2, e1⟩ | ⟨h1, e1⟩ <;> rw [e1] at e <;> simp only [List.cons.injEq, reduceCtorEq, and_false, and_true] at e
    · unfold v2 at e h1 h2; unfold P2; omega
  · intro h
    unfold P2 at h
    have hs : Scal (v2 a b) := by unfold Scal v2; omega
    refine ⟨hs, ?_⟩
    rcases encZ_cases hs with ⟨h1, e1⟩ | ⟨h1, h2, e1⟩ | ⟨h1, h2, e1⟩ | ⟨h1, e1⟩ <;> unfold v2 at h1
    · omega
    · rw [e1]; unfold v2; congr 1; omega; congr 1; omega
    · omega
    · omega
theorem whole3 (a b c : UInt8) : Whole [a, b, c] ↔ P3 (ub a) (ub b) ∧ C8 (ub c) := by
  have ha := ub_rng a
  have hb := ub_rng b
  have hc := ub_rng c
  unfold Whole
  rw [ints3]
  show Scal (v3 (ub a) (ub b) (ub c)) ∧ Lib.encodeRuneZ (v3 (ub a) (ub b) (ub c)) = [ub a, ub b, ub c] ↔ _
  generalize ub a = a at *
  generalize ub b = b at *
  generalize ub c = c at *
  constructor
  · rintro ⟨h, e⟩
    rcases encZ_cases h with ⟨h1, e1⟩ | ⟨h1, h2, e1⟩ | ⟨h1, h2, e1⟩ | ⟨h1, e1⟩ <;> rw [e1] at e <;> simp only [List.cons.injEq, reduceCtorEq, and_false, and_true] at e
    · unfold Scal at h; unfold v3 at e h1 h2 h; unfold P3 C8; omega
  · rintro ⟨h, hc8⟩
    unfold P3 at h
    unfold C8 at hc8
    have hs : Scal (v3 a b c) := by unfold Scal v3; omega
    refine ⟨hs, ?_⟩
    rcases encZ_cases hs with ⟨h1, e1⟩ | ⟨h1, h2, e1⟩ | ⟨h1, h2, e1⟩ | ⟨h1, e1⟩ <;> unfold v3 at h1
    · omega
    · unfold v3 at h2; omega
    · rw [e1]; unfold v3; congr 1; omega; congr 1; omega; congr 1; omega
    · omega
theorem whole4 (a b c d : UInt8) : Whole [a, b, c, d] ↔ P4 (ub a) (ub b) ∧ C8 (ub c) ∧ C8 (ub d) := by
  have ha := ub_rng a
  have hb := ub_rng b
  have hc := ub_rng c
  have hd := ub_rng d
  unfold Whole
  rw [ints4]
  show Scal (v4 (ub a) (ub b) (ub c) (ub d)) ∧ Lib.encodeRuneZ (v4 (ub a) (ub b) (ub c) (ub d)) = [ub a, ub b, ub c, ub d] ↔ _
  generalize ub a = a at *
  generalize ub b = b at *
  generalize ub c = c at *
  generalize ub d = d at *
  constructor
  · rintro ⟨h, e⟩
    rcases encZ_cases h with ⟨h1, e1⟩ | ⟨h1, h2, e1⟩ | ⟨h1, h2, e1⟩ | ⟨h1, e1⟩ <;> rw [e1] at e <;> simp only [List.cons.injEq, reduceCtorEq, and_false, and_true] at e
    · unfold Scal at h; unfold v4 at e h1 h; unfold P4 C8; omega
  · rintro ⟨h, hc8, hd8⟩
    unfold P4 at h
    unfold C8 at hc8 hd8
    have hs : Scal (v4 a b c d) := by unfold Scal v4; omega
    refine ⟨hs, ?_⟩
    rcases encZ_cases hs with ⟨h1, e1⟩ | ⟨h1, h2, e1⟩ | ⟨h1, h2, e1⟩ | ⟨h1, e1⟩ <;> unfold v4 at h1
    · omega
    · unfold v4 at h2; omega
    · unfold v4 at h2; omega
    · rw [e1]; unfold v4; congr 1; omega; congr 1; omega; congr 1; omega; congr 1; omega

def begL : List UInt8 → Bool
  | [a, b] => decide (P2 (ub a) (ub b) ∨ P3 (ub a) (ub b) ∨ P4 (ub a) (ub b))
  | [a, b, c] => decide ((P3 (ub a) (ub b) ∨ P4 (ub a) (ub b)) ∧ C8 (ub c))
  | _ => false
theorem bt0 (a : UInt8) (r : List UInt8) : bt (mkB (a :: r)) 0 = ub a := bt_mkB (a :: r) 0 (by simp)
theorem bt1 (a b : UInt8) (r : List UInt8) : bt (mkB (a :: b :: r)) 1 = ub b := bt_mkB (a :: b :: r) 1 (by simp)
theorem bt2 (a b c : UInt8) (r : List UInt8) : bt (mkB (a :: b :: c :: r)) 2 = ub c := bt_mkB (a :: b :: c :: r) 2 (by simp)
theorem bt3 (a b c d : UInt8) (r : List UInt8) : bt (mkB (a :: b :: c :: d :: r)) 3 = ub d := bt_mkB (a :: b :: c :: d :: r) 3 (by simp)
theorem some_dec {Q : Prop} [Decidable Q] {X : Option Bool} (h1 : Q → X = some true) (h2 : ¬ Q → X = some false) : X = some (decide Q) := by
  by_cases h : Q
  · rw [decide_eq_true h]; exact h1 h
  · rw [decide_eq_false h]; exact h2 h
set_option maxHeartbeats 4000000 in
theorem begins2 (k : Nat) (a b : UInt8) : portcullisref01_begins.f (k + 4) (mkB [a, b]) = some (begL [a, b]) := by
  have ha := ub_rng a
  have hb := ub_rng b
  have hsz : ((mkB [a, b]).size : Int) = 2 := by rw [mkB_size]; rfl
  unfold portcullisref01_begins.f
  rw [hsz, if_pos (by decide), if_pos (by decide), bt0, bt1]
  simp only [portcullisref01_begins.j0, portcullisref01_begins.j1, portcullisref01_begins.j2, hsz, if_true]
  show _ = some (decide (P2 (ub a) (ub b) ∨ P3 (ub a) (ub b) ∨ P4 (ub a) (ub b)))
  generalize ub a = a at *
  generalize ub b = b at *
  simp only [decide_eq_true_eq, Bool.false_eq_true, if_false, if_true, eq_self_iff_true]
  rcases (by omega : a < 194 ∨ (194 ≤ a ∧ a ≤ 223) ∨ a = 224 ∨ (225 ≤ a ∧ a ≤ 236) ∨ a = 237 ∨ (238 ≤ a ∧ a ≤ 239) ∨ a = 240 ∨ (241 ≤ a ∧ a ≤ 243) ∨ a = 244 ∨ 244 < a) with r | r | r | r | r | r | r | r | r | r
  all_goals (repeat (first | rw [if_pos (by omega)] | rw [if_neg (by omega)]))
  all_goals (refine some_dec (fun h => ?_) (fun h => ?_) <;> unfold P2 P3 P4 at h <;> (repeat (first | rw [if_pos (by omega)] | rw [if_neg (by omega)])))
  all_goals (repeat' split)
  all_goals first | rfl | (exfalso; omega) | (congr 1; rw [decide_eq_true_iff]; omega) | (congr 1; rw [decide_eq_false_iff_not]; omega)
set_option maxHeartbeats 4000000 in
theorem begins3 (k : Nat) (a b c : UInt8) : portcullisref01_begins.f (k + 4) (mkB [a, b, c]) = some (begL [a, b, c]) := by
  have ha := ub_rng a
  have hb := ub_rng b
  have hc := ub_rng c
  have hsz : ((mkB [a, b, c]).size : Int) = 3 := by rw [mkB_size]; rfl
  unfold portcullisref01_begins.f
  rw [hsz, if_pos (by decide), if_pos (by decide), bt0, bt1]
  simp only [portcullisref01_begins.j0, portcullisref01_begins.j1, portcullisref01_begins.j2, hsz, bt2, if_neg (show ¬ (3 : Int) = 2 by decide), if_pos (show (2 : Int) < 3 by decide)]
  show _ = some (decide ((P3 (ub a) (ub b) ∨ P4 (ub a) (ub b)) ∧ C8 (ub c)))
  generalize ub a = a at *
  generalize ub b = b at *
  generalize ub c = c at *
  simp only [decide_eq_true_eq, Bool.false_eq_true, if_false, if_true, eq_self_iff_true]
  rcases (by omega : a < 194 ∨ (194 ≤ a ∧ a ≤ 223) ∨ a = 224 ∨ (225 ≤ a ∧ a ≤ 236) ∨ a = 237 ∨ (238 ≤ a ∧ a ≤ 239) ∨ a = 240 ∨ (241 ≤ a ∧ a ≤ 243) ∨ a = 244 ∨ 244 < a) with r | r | r | r | r | r | r | r | r | r
  all_goals (repeat (first | rw [if_pos (by omega)] | rw [if_neg (by omega)]))
  all_goals (refine some_dec (fun h => ?_) (fun h => ?_) <;> unfold P3 P4 C8 at h <;> (repeat (first | rw [if_pos (by omega)] | rw [if_neg (by omega)])))
  all_goals (repeat' split)
  all_goals first | rfl | (exfalso; omega) | (congr 1; rw [decide_eq_true_iff]; omega) | (congr 1; rw [decide_eq_false_iff_not]; omega)
theorem begins_is (k : Nat) (t : List UInt8) (h : t.length = 2 ∨ t.length = 3) : portcullisref01_begins.f (k + 4) (mkB t) = some (begL t) := by
  match t, h with
  | [a, b], _ => exact begins2 k a b
  | [a, b, c], _ => exact begins3 k a b c
  | [], h => simp at h
  | [a], h => simp at h
  | a :: b :: c :: d :: r, h => simp at h
theorem nl0 (k : Nat) (t : List UInt8) (m : Nat) (h1 : 1 ≤ m) (h : m ≤ 4) (hl : m ≤ t.length) :
    portcullisref01_Next.l0 (k + 7) (mkB t) (m : Int) = if Whole (t.take m) then some (valL (t.take m), (m : Int), true) else portcullisref01_Next.l0 (k + 5) (mkB t) ((m + 1 : Nat) : Int) := by
  have hlt : (t.take m).length = m := by rw [List.length_take]; omega
  have hsz : ((mkB t).size : Int) = (t.length : Int) := by rw [mkB_size]
  rw [portcullisref01_Next.l0, if_pos (by omega), hsz, decide_eq_true (by omega), portcullisref01_Next.j1, if_pos rfl, if_pos (by omega), hsz, if_pos (by omega), Int.toNat_natCast, ext_take, whole_is k _ (by omega) (by omega), Option.bind_some, value_is k _ (by omega) (by omega), Option.bind_some, w64n m (by omega)]
  by_cases c : Whole (t.take m)
  · rw [if_pos c, if_pos (decide_eq_true c)]
  · rw [if_neg c, if_neg (by rw [decide_eq_false c]; decide)]
theorem nl0_end (k : Nat) (t : List UInt8) (m : Nat) (h : 4 < m ∨ t.length < m) : portcullisref01_Next.l0 (k + 2) (mkB t) (m : Int) = portcullisref01_Next.l1 k (mkB t) 1 := by
  have hsz : ((mkB t).size : Int) = (t.length : Int) := by rw [mkB_size]
  rw [portcullisref01_Next.l0, hsz]
  by_cases c : (m : Int) ≤ 4
  · rw [if_pos c, decide_eq_false (by omega), portcullisref01_Next.j1, if_neg (by decide)]
  · rw [if_neg c, portcullisref01_Next.j1, if_neg (by decide)]
theorem nl1 (k : Nat) (t : List UInt8) (m : Nat) (h1 : 1 ≤ m) :
    portcullisref01_Next.l1 (k + 5) (mkB t) (m : Int) = if m < t.length ∧ m < 3 then (if begL (t.take (m + 1)) = true then portcullisref01_Next.l1 (k + 4) (mkB t) ((m + 1 : Nat) : Int) else some (65533, (m : Int), false)) else some (65533, (m : Int), false) := by
  have hsz : ((mkB t).size : Int) = (t.length : Int) := by rw [mkB_size]
  rw [portcullisref01_Next.l1, hsz]
  by_cases c1 : m < t.length
  · rw [if_pos (by omega)]
    by_cases c2 : m < 3
    · rw [if_pos (by omega), w64n m (by omega), if_pos (by omega), if_pos (by omega), Int.toNat_natCast, ext_take, begins_is k _ (by rw [List.length_take]; omega), Option.bind_some, if_pos (show m < t.length ∧ m < 3 from ⟨c1, c2⟩)]
    · rw [if_neg (by omega), if_neg (by omega)]
  · rw [if_neg (by omega), if_neg (by omega)]
theorem nx1 (a : UInt8) : nxL [a] = if ub a < 128 then (ub a, 1, true) else (65533, 1, false) := rfl
theorem nx2 (a b : UInt8) : nxL [a, b] = if ub a < 128 then (ub a, 1, true) else if P2 (ub a) (ub b) then (v2 (ub a) (ub b), 2, true) else if P3 (ub a) (ub b) ∨ P4 (ub a) (ub b) then (65533, 2, false) else (65533, 1, false) := rfl
theorem nx3 (a b c : UInt8) : nxL [a, b, c] = if ub a < 128 then (ub a, 1, true) else if P2 (ub a) (ub b) then (v2 (ub a) (ub b), 2, true)
      else if P3 (ub a) (ub b) then (if C8 (ub c) then (v3 (ub a) (ub b) (ub c), 3, true) else (65533, 2, false))
      else if P4 (ub a) (ub b) then (if C8 (ub c) then (65533, 3, false) else (65533, 2, false)) else (65533, 1, false) := rfl
theorem nx4 (a b c d : UInt8) (r : List UInt8) : nxL (a :: b :: c :: d :: r) = if ub a < 128 then (ub a, 1, true) else if P2 (ub a) (ub b) then (v2 (ub a) (ub b), 2, true)
      else if P3 (ub a) (ub b) then (if C8 (ub c) then (v3 (ub a) (ub b) (ub c), 3, true) else (65533, 2, false))
      else if P4 (ub a) (ub b) then (if C8 (ub c) then (if C8 (ub d) then (v4 (ub a) (ub b) (ub c) (ub d), 4, true) else (65533, 3, false)) else (65533, 2, false)) else (65533, 1, false) := rfl
theorem refNext_is (k : Nat) (t : List UInt8) : portcullisref01_Next.f (k + 40) (mkB t) = some (nxL t) := by
  have hnil : (mkB t).toList = ([] : List UInt8) ↔ t = [] := by rw [Lib.toList_data, data_mkB]
  unfold portcullisref01_Next.f
  match t with
  | [] => rw [if_pos (hnil.2 rfl)]; rfl
  | [a] =>
    rw [if_neg (fun h => by cases hnil.1 h)]
    show portcullisref01_Next.l0 (k + 33 + 7) (mkB [a]) ((1 : Nat) : Int) = _
    rw [nl0 _ _ _ (by decide) (by decide) (by simp)]
    show (if Whole [a] then some (ub a, (1 : Int), true) else portcullisref01_Next.l0 (k + 36 + 2) (mkB [a]) ((2 : Nat) : Int)) = _
    rw [nl0_end _ _ _ (by simp)]
    show (if Whole [a] then some (ub a, (1 : Int), true) else portcullisref01_Next.l1 (k + 31 + 5) (mkB [a]) ((1 : Nat) : Int)) = some (if ub a < 128 then (ub a, 1, true) else (65533, 1, false))
    rw [nl1 _ _ _ (by decide), if_neg (show ¬ (1 < [a].length ∧ 1 < 3) by simp)]
    by_cases c : ub a < 128
    · rw [if_pos ((whole1 a).2 c), if_pos c]
    · rw [if_neg (fun h => c ((whole1 a).1 h)), if_neg c]; rfl
  | [a, b] =>
    rw [if_neg (fun h => by cases hnil.1 h)]
    show portcullisref01_Next.l0 (k + 33 + 7) (mkB [a, b]) ((1 : Nat) : Int) = _
    rw [nl0 _ _ _ (by decide) (by decide) (by simp)]
    show (if Whole [a] then some (ub a, (1 : Int), true) else portcullisref01_Next.l0 (k + 31 + 7) (mkB [a, b]) ((2 : Nat) : Int)) = _
    rw [nl0 _ _ _ (by decide) (by decide) (by simp)]
    show (if Whole [a] then some (ub a, (1 : Int), true) else if Whole [a, b] then some (v2 (ub a) (ub b), (2 : Int), true) else portcullisref01_Next.l0 (k + 34 + 2) (mkB [a, b]) ((3 : Nat) : Int)) = _
    rw [nl0_end _ _ _ (by simp)]
    show (if Whole [a] then some (ub a, (1 : Int), true) else if Whole [a, b] then some (v2 (ub a) (ub b), (2 : Int), true) else portcullisref01_Next.l1 (k + 29 + 5) (mkB [a, b]) ((1 : Nat) : Int)) = _
    rw [nl1 _ _ _ (by decide), if_pos (show 1 < [a, b].length ∧ 1 < 3 by simp)]
    show (if Whole [a] then some (ub a, (1 : Int), true) else if Whole [a, b] then some (v2 (ub a) (ub b), (2 : Int), true) else if begL [a, b] = true then portcullisref01_Next.l1 (k + 28 + 5) (mkB [a, b]) ((2 : Nat) : Int) else some (65533, 1, false)) = _
    rw [nl1 _ _ _ (by decide), if_neg (show ¬ (2 < [a, b].length ∧ 2 < 3) by simp)]
    rw [nx2]
    by_cases c : ub a < 128
    · rw [if_pos ((whole1 a).2 c), if_pos c]
    · rw [if_neg (fun h => c ((whole1 a).1 h)), if_neg c]
      by_cases c2 : P2 (ub a) (ub b)
      · rw [if_pos ((whole2 a b).2 c2), if_pos c2]
      · rw [if_neg (fun h => c2 ((whole2 a b).1 h)), if_neg c2]
        by_cases c3 : P3 (ub a) (ub b) ∨ P4 (ub a) (ub b)
        · rw [if_pos (show begL [a, b] = true from decide_eq_true (.inr c3)), if_pos c3]; rfl
        · rw [if_neg (show ¬ begL [a, b] = true from fun h => by rcases of_decide_eq_true h with h | h; exact c2 h; exact c3 h), if_neg c3]
  | [a, b, c] =>
    rw [if_neg (fun h => by cases hnil.1 h)]
    show portcullisref01_Next.l0 (k + 33 + 7) (mkB [a, b, c]) ((1 : Nat) : Int) = _
    rw [nl0 _ _ _ (by decide) (by decide) (by simp)]
    show (if Whole [a] then some (ub a, (1 : Int), true) else portcullisref01_Next.l0 (k + 31 + 7) (mkB [a, b, c]) ((2 : Nat) : Int)) = _
    rw [nl0 _ _ _ (by decide) (by decide) (by simp)]
    show (if Whole [a] then some (ub a, (1 : Int), true) else if Whole [a, b] then some (v2 (ub a) (ub b), (2 : Int), true) else portcullisref01_Next.l0 (k + 29 + 7) (mkB [a, b, c]) ((3 : Nat) : Int)) = _
    rw [nl0 _ _ _ (by decide) (by decide) (by simp)]
    show (if Whole [a] then some (ub a, (1 : Int), true) else if Whole [a, b] then some (v2 (ub a) (ub b), (2 : Int), true) else if Whole [a, b, c] then some (v3 (ub a) (ub b) (ub c), (3 : Int), true) else portcullisref01_Next.l0 (k + 32 + 2) (mkB [a, b, c]) ((4 : Nat) : Int)) = _
    rw [nl0_end _ _ _ (by simp)]
    show (if Whole [a] then some (ub a, (1 : Int), true) else if Whole [a, b] then some (v2 (ub a) (ub b), (2 : Int), true) else if Whole [a, b, c] then some (v3 (ub a) (ub b) (ub c), (3 : Int), true) else portcullisref01_Next.l1 (k + 27 + 5) (mkB [a, b, c]) ((1 : Nat) : Int)) = _
    rw [nl1 _ _ _ (by decide), if_pos (show 1 < [a, b, c].length ∧ 1 < 3 by simp)]
    show (if Whole [a] then some (ub a, (1 : Int), true) else if Whole [a, b] then some (v2 (ub a) (ub b), (2 : Int), true) else if Whole [a, b, c] then some (v3 (ub a) (ub b) (ub c), (3 : Int), true) else if begL [a, b] = true then portcullisref01_Next.l1 (k + 26 + 5) (mkB [a, b, c]) ((2 : Nat) : Int) else some (65533, 1, false)) = _
    rw [nl1 _ _ _ (by decide), if_pos (show 2 < [a, b, c].length ∧ 2 < 3 by simp)]
    show (if Whole [a] then some (ub a, (1 : Int), true) else if Whole [a, b] then some (v2 (ub a) (ub b), (2 : Int), true) else if Whole [a, b, c] then some (v3 (ub a) (ub b) (ub c), (3 : Int), true) else if begL [a, b] = true then (if begL [a, b, c] = true then portcullisref01_Next.l1 (k + 25 + 5) (mkB [a, b, c]) ((3 : Nat) : Int) else some (65533, 2, false)) else some (65533, 1, false)) = _
    rw [nl1 _ _ _ (by decide), if_neg (show ¬ (3 < [a, b, c].length ∧ 3 < 3) by simp)]
    rw [nx3]
    by_cases c0 : ub a < 128
    · rw [if_pos ((whole1 a).2 c0), if_pos c0]
    · rw [if_neg (fun h => c0 ((whole1 a).1 h)), if_neg c0]
      by_cases c2 : P2 (ub a) (ub b)
      · rw [if_pos ((whole2 a b).2 c2), if_pos c2]
      · rw [if_neg (fun h => c2 ((whole2 a b).1 h)), if_neg c2]
        by_cases c3 : P3 (ub a) (ub b)
        · rw [if_pos (show begL [a, b] = true from decide_eq_true (.inr (.inl c3))), if_pos c3]
          by_cases c8 : C8 (ub c)
          · rw [if_pos ((whole3 a b c).2 ⟨c3, c8⟩), if_pos c8]
          · rw [if_neg (fun h => c8 ((whole3 a b c).1 h).2), if_neg c8, if_neg (show ¬ begL [a, b, c] = true from fun h => c8 (of_decide_eq_true h).2)]
        · rw [if_neg (fun h => c3 ((whole3 a b c).1 h).1), if_neg c3]
          by_cases c4 : P4 (ub a) (ub b)
          · rw [if_pos (show begL [a, b] = true from decide_eq_true (.inr (.inr c4))), if_pos c4]
            by_cases c8 : C8 (ub c)
            · rw [if_pos (show begL [a, b, c] = true from decide_eq_true ⟨.inr c4, c8⟩), if_pos c8]; rfl
            · rw [if_neg c8, if_neg (show ¬ begL [a, b, c] = true from fun h => c8 (of_decide_eq_true h).2)]
          · rw [if_neg (show ¬ begL [a, b] = true from fun h => by rcases of_decide_eq_true h with h | h | h; exact c2 h; exact c3 h; exact c4 h), if_neg c4]
  | a :: b :: c :: d :: r =>
    rw [if_neg (fun h => by cases hnil.1 h)]
    show portcullisref01_Next.l0 (k + 33 + 7) (mkB (a :: b :: c :: d :: r)) ((1 : Nat) : Int) = _
    rw [nl0 _ _ _ (by decide) (by decide) (by simp)]
    show (if Whole [a] then some (ub a, (1 : Int), true) else portcullisref01_Next.l0 (k + 31 + 7) (mkB (a :: b :: c :: d :: r)) ((2 : Nat) : Int)) = _
    rw [nl0 _ _ _ (by decide) (by decide) (by simp)]
    show (if Whole [a] then some (ub a, (1 : Int), true) else if Whole [a, b] then some (v2 (ub a) (ub b), (2 : Int), true) else portcullisref01_Next.l0 (k + 29 + 7) (mkB (a :: b :: c :: d :: r)) ((3 : Nat) : Int)) = _
    rw [nl0 _ _ _ (by decide) (by decide) (by simp)]
    show (if Whole [a] then some (ub a, (1 : Int), true) else if Whole [a, b] then some (v2 (ub a) (ub b), (2 : Int), true) else if Whole [a, b, c] then some (v3 (ub a) (ub b) (ub c), (3 : Int), true) else portcullisref01_Next.l0 (k + 27 + 7) (mkB (a :: b :: c :: d :: r)) ((4 : Nat) : Int)) = _
    rw [nl0 _ _ _ (by decide) (by decide) (by simp)]
    show (if Whole [a] then some (ub a, (1 : Int), true) else if Whole [a, b] then some (v2 (ub a) (ub b), (2 : Int), true) else if Whole [a, b, c] then some (v3 (ub a) (ub b) (ub c), (3 : Int), true) else if Whole [a, b, c, d] then some (v4 (ub a) (ub b) (ub c) (ub d), (4 : Int), true) else portcullisref01_Next.l0 (k + 30 + 2) (mkB (a :: b :: c :: d :: r)) ((5 : Nat) : Int)) = _
    rw [nl0_end _ _ _ (by simp)]
    show (if Whole [a] then some (ub a, (1 : Int), true) else if Whole [a, b] then some (v2 (ub a) (ub b), (2 : Int), true) else if Whole [a, b, c] then some (v3 (ub a) (ub b) (ub c), (3 : Int), true) else if Whole [a, b, c, d] then some (v4 (ub a) (ub b) (ub c) (ub d), (4 : Int), true) else portcullisref01_Next.l1 (k + 25 + 5) (mkB (a :: b :: c :: d :: r)) ((1 : Nat) : Int)) = _
    rw [nl1 _ _ _ (by decide), if_pos (show 1 < (a :: b :: c :: d :: r).length ∧ 1 < 3 by simp)]
    show (if Whole [a] then some (ub a, (1 : Int), true) else if Whole [a, b] then some (v2 (ub a) (ub b), (2 : Int), true) else if Whole [a, b, c] then some (v3 (ub a) (ub b) (ub c), (3 : Int), true) else if Whole [a, b, c, d] then some (v4 (ub a) (ub b) (ub c) (ub d), (4 : Int), true) else if begL [a, b] = true then portcullisref01_Next.l1 (k + 24 + 5) (mkB (a :: b :: c :: d :: r)) ((2 : Nat) : Int) else some (65533, 1, false)) = _
    rw [nl1 _ _ _ (by decide), if_pos (show 2 < (a :: b :: c :: d :: r).length ∧ 2 < 3 by simp)]
    show (if Whole [a] then some (ub a, (1 : Int), true) else if Whole [a, b] then some (v2 (ub a) (ub b), (2 : Int), true) else if Whole [a, b, c] then some (v3 (ub a) (ub b) (ub c), (3 : Int), true) else if Whole [a, b, c, d] then some (v4 (ub a) (ub b) (ub c) (ub d), (4 : Int), true) else if begL [a, b] = true then (if begL [a, b, c] = true then portcullisref01_Next.l1 (k + 23 + 5) (mkB (a :: b :: c :: d :: r)) ((3 : Nat) : Int) else some (65533, 2, false)) else some (65533, 1, false)) = _
    rw [nl1 _ _ _ (by decide), if_neg (show ¬ (3 < (a :: b :: c :: d :: r).length ∧ 3 < 3) by simp)]
    rw [nx4]
    by_cases c0 : ub a < 128
    · rw [if_pos ((whole1 a).2 c0), if_pos c0]
    · rw [if_neg (fun h => c0 ((whole1 a).1 h)), if_neg c0]
      by_cases c2 : P2 (ub a) (ub b)
      · rw [if_pos ((whole2 a b).2 c2), if_pos c2]
      · rw [if_neg (fun h => c2 ((whole2 a b).1 h)), if_neg c2]
        by_cases c3 : P3 (ub a) (ub b)
        · have c4 : ¬ P4 (ub a) (ub b) := by unfold P3 at c3; unfold P4; omega
          rw [if_pos (show begL [a, b] = true from decide_eq_true (.inr (.inl c3))), if_pos c3]
          by_cases c8 : C8 (ub c)
          · rw [if_pos ((whole3 a b c).2 ⟨c3, c8⟩), if_pos c8]
          · rw [if_neg (fun h => c8 ((whole3 a b c).1 h).2), if_neg c8, if_neg (fun h => c4 ((whole4 a b c d).1 h).1), if_neg (show ¬ begL [a, b, c] = true from fun h => c8 (of_decide_eq_true h).2)]
        · rw [if_neg (fun h => c3 ((whole3 a b c).1 h).1), if_neg c3]
          by_cases c4 : P4 (ub a) (ub b)
          · rw [if_pos (show begL [a, b] = true from decide_eq_true (.inr (.inr c4))), if_pos c4]
            by_cases c8 : C8 (ub c)
            · rw [if_pos (show begL [a, b, c] = true from decide_eq_true ⟨.inr c4, c8⟩), if_pos c8]
              by_cases d8 : C8 (ub d)
              · rw [if_pos ((whole4 a b c d).2 ⟨c4, c8, d8⟩), if_pos d8]
              · rw [if_neg (fun h => d8 ((whole4 a b c d).1 h).2.2), if_neg d8]; rfl
            · rw [if_neg c8, if_neg (fun h => c8 ((whole4 a b c d).1 h).2.1), if_neg (show ¬ begL [a, b, c] = true from fun h => c8 (of_decide_eq_true h).2)]
          · rw [if_neg (fun h => c4 ((whole4 a b c d).1 h).1), if_neg (show ¬ begL [a, b] = true from fun h => by rcases of_decide_eq_true h with h | h | h; exact c2 h; exact c3 h; exact c4 h), if_neg c4]

theorem room_is (k : Nat) (a : Int) (h : 0 ≤ a) (h2 : a ≤ 255) : utf_room.f (k + 5) a = some (if a < 128 then (0, 0, 1) else if 194 ≤ a ∧ a ≤ 223 then (128, 191, 2) else if 224 ≤ a ∧ a ≤ 239 then ((if a = 224 then 160 else 128), (if a = 237 then 159 else 191), 3)
    else if 240 ≤ a ∧ a ≤ 244 then ((if a = 240 then 144 else 128), (if a = 244 then 143 else 191), 4) else (0, 0, 0)) := by
  unfold utf_room.f
  simp only [utf_room.j0, utf_room.j1, utf_room.j2, decide_eq_true_eq, Bool.false_eq_true, if_false]
  rcases (by omega : a < 128 ∨ (128 ≤ a ∧ a < 194) ∨ (194 ≤ a ∧ a ≤ 223) ∨ a = 224 ∨ (225 ≤ a ∧ a ≤ 236) ∨ a = 237 ∨ (238 ≤ a ∧ a ≤ 239) ∨ a = 240 ∨ (241 ≤ a ∧ a ≤ 243) ∨ a = 244 ∨ 244 < a) with r | r | r | r | r | r | r | r | r | r | r
  all_goals (repeat (first | rw [if_pos (by omega)] | rw [if_neg (by omega)]))
theorem un (k : Nat) (t : List UInt8) (lo hi all : Int) (i : Nat) (h1 : 1 ≤ i) (hl : i ≤ t.length) (hs : t.length ≤ 1000000000) :
    utf_Next.l0 (k + 1) (mkB t) lo hi all (i : Int) = if (i : Int) < all ∧ i < t.length ∧ lo ≤ bt (mkB t) (i : Int) ∧ bt (mkB t) (i : Int) ≤ hi then utf_Next.l0 k (mkB t) 128 191 all ((i + 1 : Nat) : Int)
      else if (i : Int) = all then some (((Lib.decodeGo (mkB (t.take i))).1 : Int), (i : Int), true) else some (65533, (i : Int), false) := by
  have hsz : ((mkB t).size : Int) = (t.length : Int) := by rw [mkB_size]
  rw [utf_Next.l0, hsz]
  have e : ∀ x : Int, x = (i : Int) → ((utf8_DecodeRuneInString.f ((mkB t).extract 0 (i : Int).toNat)).bind fun bt506 => (some (bt506.1, x, true))) = some (((Lib.decodeGo (mkB (t.take i))).1 : Int), (i : Int), true) := by
    rintro x rfl
    rw [Int.toNat_natCast, ext_take]
    rfl
  rw [e _ rfl, w64n i (by omega)]
  generalize bt (mkB t) (i : Int) = b
  by_cases c1 : (i : Int) < all
  · have hne : ¬ (i : Int) = all := by omega
    rw [if_pos c1]
    by_cases c2 : i < t.length
    · rw [if_pos (show (i : Int) < (t.length : Int) by omega), if_pos (show (0 : Int) ≤ (i : Int) by omega)]
      by_cases c3 : b ≥ lo
      · rw [if_pos c3]
        by_cases c4 : b ≤ hi
        · rw [if_pos c4, if_pos (show (i : Int) < all ∧ i < t.length ∧ lo ≤ b ∧ b ≤ hi from ⟨c1, c2, c3, c4⟩)]
        · rw [if_neg c4, if_neg (show ¬ ((i : Int) < all ∧ i < t.length ∧ lo ≤ b ∧ b ≤ hi) from fun h => c4 h.2.2.2), if_neg hne, if_neg hne]
      · rw [if_neg c3, if_neg (show ¬ ((i : Int) < all ∧ i < t.length ∧ lo ≤ b ∧ b ≤ hi) from fun h => c3 h.2.2.1), if_neg hne, if_neg hne]
    · rw [if_neg (show ¬ (i : Int) < (t.length : Int) by omega), if_neg (show ¬ ((i : Int) < all ∧ i < t.length ∧ lo ≤ b ∧ b ≤ hi) from fun h => c2 h.2.1), if_neg hne, if_neg hne]
  · rw [if_neg c1, if_neg (show ¬ ((i : Int) < all ∧ i < t.length ∧ lo ≤ b ∧ b ≤ hi) from fun h => c1 h.1)]
    by_cases c5 : (i : Int) = all
    · rw [if_pos c5, if_pos (show (0 : Int) ≤ (i : Int) by omega), if_pos (show (i : Int) ≤ (t.length : Int) by omega), if_pos c5]
    · rw [if_neg c5, if_neg c5]
theorem g0 (a : UInt8) (r : List UInt8) : (mkB (a :: r)).get! 0 = a := by unfold mkB ByteArray.get!; rfl
theorem g1 (a b : UInt8) (r : List UInt8) : (mkB (a :: b :: r)).get! 1 = b := by unfold mkB ByteArray.get!; rfl
theorem g2 (a b c : UInt8) (r : List UInt8) : (mkB (a :: b :: c :: r)).get! 2 = c := by unfold mkB ByteArray.get!; rfl
theorem g3 (a b c d : UInt8) (r : List UInt8) : (mkB (a :: b :: c :: d :: r)).get! 3 = d := by unfold mkB ByteArray.get!; rfl
theorem dec1 (a : UInt8) (h : ub a < 128) : ((Lib.decodeGo (mkB [a])).1 : Int) = ub a := by
  unfold Lib.decodeGo
  rw [if_neg (by rw [mkB_size]; simp), Lib.decode_at, mkB_size, Nat.zero_add, Nat.zero_add, Nat.zero_add, g0]
  unfold Lib.decodeN
  unfold ub at h
  rw [if_pos (by omega)]
theorem dec2 (a b : UInt8) (h : P2 (ub a) (ub b)) : ((Lib.decodeGo (mkB [a, b])).1 : Int) = v2 (ub a) (ub b) := by
  unfold Lib.decodeGo
  rw [if_neg (by rw [mkB_size]; simp), Lib.decode_at, mkB_size, Nat.zero_add, Nat.zero_add, Nat.zero_add, g0, g1]
  unfold Lib.decodeN
  unfold P2 ub at h
  unfold v2 ub
  show ((if _ then _ else _ : Nat × Nat).1 : Int) = _
  rw [if_neg (by omega), if_pos (by simp only [List.length_cons, List.length_nil]; omega), if_pos (by omega)]
  show (((a.toNat % 32 * 64 + b.toNat % 64 : Nat)) : Int) = _
  omega
theorem dec3 (a b c : UInt8) (h : P3 (ub a) (ub b)) (h8 : C8 (ub c)) : ((Lib.decodeGo (mkB [a, b, c])).1 : Int) = v3 (ub a) (ub b) (ub c) := by
  unfold Lib.decodeGo
  rw [if_neg (by rw [mkB_size]; simp), Lib.decode_at, mkB_size, Nat.zero_add, Nat.zero_add, Nat.zero_add, g0, g1, g2]
  unfold Lib.decodeN
  unfold P3 ub at h
  unfold C8 ub at h8
  unfold v3 ub
  rw [if_neg (by omega), if_neg (by omega), if_pos (by simp only [List.length_cons, List.length_nil]; omega), if_pos (by omega)]
  show (((a.toNat % 16 * 4096 + b.toNat % 64 * 64 + c.toNat % 64 : Nat)) : Int) = _
  omega
theorem dec4 (a b c d : UInt8) (h : P4 (ub a) (ub b)) (h8 : C8 (ub c)) (d8 : C8 (ub d)) : ((Lib.decodeGo (mkB [a, b, c, d])).1 : Int) = v4 (ub a) (ub b) (ub c) (ub d) := by
  unfold Lib.decodeGo
  rw [if_neg (by rw [mkB_size]; simp), Lib.decode_at, mkB_size, Nat.zero_add, Nat.zero_add, Nat.zero_add, g0, g1, g2, g3]
  unfold Lib.decodeN
  unfold P4 ub at h
  unfold C8 ub at h8 d8
  unfold v4 ub
  rw [if_neg (by omega), if_neg (by omega), if_neg (by omega), if_pos (by simp only [List.length_cons, List.length_nil]; omega), if_pos (by omega)]
  show (((a.toNat % 8 * 262144 + b.toNat % 64 * 4096 + c.toNat % 64 * 64 + d.toNat % 64 : Nat)) : Int) = _
  omega
theorem u1 (t : List UInt8) (lo hi all : Int) (h : 1 ≤ t.length) (hs : t.length ≤ 1000000000) : utf_Next.l0 20 (mkB t) lo hi all 1 = if (1 : Int) < all ∧ 1 < t.length ∧ lo ≤ bt (mkB t) 1 ∧ bt (mkB t) 1 ≤ hi then utf_Next.l0 19 (mkB t) 128 191 all 2
      else if (1 : Int) = all then some (((Lib.decodeGo (mkB (t.take 1))).1 : Int), 1, true) else some (65533, 1, false) := un 19 t lo hi all 1 (by omega) h hs
theorem u2 (t : List UInt8) (lo hi all : Int) (h : 2 ≤ t.length) (hs : t.length ≤ 1000000000) : utf_Next.l0 19 (mkB t) lo hi all 2 = if (2 : Int) < all ∧ 2 < t.length ∧ lo ≤ bt (mkB t) 2 ∧ bt (mkB t) 2 ≤ hi then utf_Next.l0 18 (mkB t) 128 191 all 3
      else if (2 : Int) = all then some (((Lib.decodeGo (mkB (t.take 2))).1 : Int), 2, true) else some (65533, 2, false) := un 18 t lo hi all 2 (by omega) h hs
theorem u3 (t : List UInt8) (lo hi all : Int) (h : 3 ≤ t.length) (hs : t.length ≤ 1000000000) : utf_Next.l0 18 (mkB t) lo hi all 3 = if (3 : Int) < all ∧ 3 < t.length ∧ lo ≤ bt (mkB t) 3 ∧ bt (mkB t) 3 ≤ hi then utf_Next.l0 17 (mkB t) 128 191 all 4
      else if (3 : Int) = all then some (((Lib.decodeGo (mkB (t.take 3))).1 : Int), 3, true) else some (65533, 3, false) := un 17 t lo hi all 3 (by omega) h hs
theorem u4 (t : List UInt8) (lo hi : Int) (h : 4 ≤ t.length) (hs : t.length ≤ 1000000000) : utf_Next.l0 17 (mkB t) lo hi 4 4 = some (((Lib.decodeGo (mkB (t.take 4))).1 : Int), 4, true) := by
  have := un 16 t lo hi 4 4 (by omega) h hs
  rw [if_neg (fun h => by have := h.1; omega)] at this
  exact this
theorem u_bad {a : UInt8} {r : List UInt8} (hs : (a :: r).length ≤ 1000000000) (lo hi all : Int) (h1 : 1 < all) (e : nxL (a :: r) = (65533, 1, false)) (h : ¬ (1 < (a :: r).length ∧ lo ≤ bt (mkB (a :: r)) 1 ∧ bt (mkB (a :: r)) 1 ≤ hi)) :
    utf_Next.l0 20 (mkB (a :: r)) lo hi all 1 = some (nxL (a :: r)) := by
  rw [u1 _ _ _ _ (by simp) hs, if_neg (fun h2 => h h2.2), if_neg (by omega), e]
theorem utfNext_is (t : List UInt8) (hs : t.length ≤ 1000000000) : utf_Next.f 20 (mkB t) = some (nxL t) := by
  have hnil : (mkB t).toList = ([] : List UInt8) ↔ t = [] := by rw [Lib.toList_data, data_mkB]
  have HS := Aside0.mk hs
  clear hs
  unfold utf_Next.f
  cases t with
  | nil => rw [if_pos (hnil.2 rfl)]; rfl
  | cons a r =>
    have hsz : ((mkB (a :: r)).size : Int) = (r.length : Int) + 1 := by rw [mkB_size]; rfl
    have ha := ub_rng a
    have hl1 : 1 ≤ (a :: r).length := by simp
    rw [if_neg (fun h => by cases hnil.1 h), hsz, if_pos (by omega), bt0, room_is 15 _ ha.1 ha.2, Option.bind_some]
    by_cases c0 : ub a < 128
    · have e : nxL (a :: r) = (ub a, 1, true) := by
        match r with
        | [] => rw [nx1, if_pos c0]
        | [b] => rw [nx2, if_pos c0]
        | [b, c] => rw [nx3, if_pos c0]
        | b :: c :: d :: r => rw [nx4, if_pos c0]
      rw [if_pos c0, e]
      dsimp only
      rw [u1 _ _ _ _ hl1 HS.out, if_neg (fun h => by have := h.1; omega), if_pos rfl]
      show some (((Lib.decodeGo (mkB [a])).1 : Int), (1 : Int), true) = _
      rw [dec1 a c0]
    · rw [if_neg c0]
      by_cases r2 : 194 ≤ ub a ∧ ub a ≤ 223
      · rw [if_pos r2]
        dsimp only
        have n3 : ∀ b, ¬ P3 (ub a) b := fun b h => by unfold P3 at h; omega
        have n4 : ∀ b, ¬ P4 (ub a) b := fun b h => by unfold P4 at h; omega
        match r with
        | [] => exact u_bad HS.out _ _ _ (by omega) (by rw [nx1, if_neg c0]) (fun h => by simp at h)
        | b :: r =>
          by_cases c2 : P2 (ub a) (ub b)
          · have e : nxL (a :: b :: r) = (v2 (ub a) (ub b), 2, true) := by
              match r with
              | [] => rw [nx2, if_neg c0, if_pos c2]
              | [c] => rw [nx3, if_neg c0, if_pos c2]
              | c :: d :: r => rw [nx4, if_neg c0, if_pos c2]
            rw [e, u1 _ _ _ _ hl1 HS.out, if_pos ⟨by omega, by simp, by rw [bt1]; exact c2.2.2.1, by rw [bt1]; exact c2.2.2.2⟩, u2 _ _ _ _ (by simp) HS.out, if_neg (fun h => by have := h.1; omega), if_pos rfl]
            show some (((Lib.decodeGo (mkB [a, b])).1 : Int), (2 : Int), true) = _
            rw [dec2 a b c2]
          · refine u_bad HS.out _ _ _ (by omega) ?_ (fun h => c2 ⟨r2.1, r2.2, by have := h.2.1; rw [bt1] at this; exact this, by have := h.2.2; rw [bt1] at this; exact this⟩)
            match r with
            | [] => rw [nx2, if_neg c0, if_neg c2, if_neg (fun h => h.elim (n3 _) (n4 _))]
            | [c] => rw [nx3, if_neg c0, if_neg c2, if_neg (n3 _), if_neg (n4 _)]
            | c :: d :: r => rw [nx4, if_neg c0, if_neg c2, if_neg (n3 _), if_neg (n4 _)]
      · rw [if_neg r2]
        have n2 : ∀ b, ¬ P2 (ub a) b := fun b h => r2 ⟨h.1, h.2.1⟩
        by_cases r3 : 224 ≤ ub a ∧ ub a ≤ 239
        · rw [if_pos r3]
          dsimp only
          have n4 : ∀ b, ¬ P4 (ub a) b := fun b h => by unfold P4 at h; omega
          have hp : ∀ b : Int, P3 (ub a) b ↔ (if ub a = 224 then (160 : Int) else 128) ≤ b ∧ b ≤ (if ub a = 237 then (159 : Int) else 191) := fun b => by
            unfold P3
            split <;> split <;> omega
          match r with
          | [] => exact u_bad HS.out _ _ _ (by omega) (by rw [nx1, if_neg c0]) (fun h => by simp at h)
          | b :: r =>
            by_cases c3 : P3 (ub a) (ub b)
            · have hb := (hp _).1 c3
              rw [u1 _ _ _ _ hl1 HS.out, if_pos ⟨by omega, by simp, by rw [bt1]; exact hb.1, by rw [bt1]; exact hb.2⟩]
              match r with
              | [] =>
                rw [u2 _ _ _ _ (by simp) HS.out, if_neg (fun h => by have := h.2.1; simp at this), if_neg (by omega), nx2, if_neg c0, if_neg (n2 _), if_pos (.inl c3)]
              | c :: r =>
                by_cases c8 : C8 (ub c)
                · have e : nxL (a :: b :: c :: r) = (v3 (ub a) (ub b) (ub c), 3, true) := by
                    match r with
                    | [] => rw [nx3, if_neg c0, if_neg (n2 _), if_pos c3, if_pos c8]
                    | d :: r => rw [nx4, if_neg c0, if_neg (n2 _), if_pos c3, if_pos c8]
                  rw [e, u2 _ _ _ _ (by simp) HS.out, if_pos ⟨by omega, by simp, by rw [bt2]; exact c8.1, by rw [bt2]; exact c8.2⟩, u3 _ _ _ _ (by simp) HS.out, if_neg (fun h => by have := h.1; omega), if_pos rfl]
                  show some (((Lib.decodeGo (mkB [a, b, c])).1 : Int), (3 : Int), true) = _
                  rw [dec3 a b c c3 c8]
                · have e : nxL (a :: b :: c :: r) = (65533, 2, false) := by
                    match r with
                    | [] => rw [nx3, if_neg c0, if_neg (n2 _), if_pos c3, if_neg c8]
                    | d :: r => rw [nx4, if_neg c0, if_neg (n2 _), if_pos c3, if_neg c8]
                  rw [e, u2 _ _ _ _ (by simp) HS.out, if_neg (fun h => c8 ⟨by have := h.2.2.1; rw [bt2] at this; exact this, by have := h.2.2.2; rw [bt2] at this; exact this⟩), if_neg (by omega)]
            · refine u_bad HS.out _ _ _ (by omega) ?_ (fun h => c3 ((hp _).2 ⟨by have := h.2.1; rw [bt1] at this; exact this, by have := h.2.2; rw [bt1] at this; exact this⟩))
              match r with
              | [] => rw [nx2, if_neg c0, if_neg (n2 _), if_neg (fun h => h.elim c3 (n4 _))]
              | [c] => rw [nx3, if_neg c0, if_neg (n2 _), if_neg c3, if_neg (n4 _)]
              | c :: d :: r => rw [nx4, if_neg c0, if_neg (n2 _), if_neg c3, if_neg (n4 _)]
        · rw [if_neg r3]
          have n3 : ∀ b, ¬ P3 (ub a) b := fun b h => r3 ⟨h.1, h.2.1⟩
          by_cases r4 : 240 ≤ ub a ∧ ub a ≤ 244
          · rw [if_pos r4]
            dsimp only
            have hp : ∀ b : Int, P4 (ub a) b ↔ (if ub a = 240 then (144 : Int) else 128) ≤ b ∧ b ≤ (if ub a = 244 then (143 : Int) else 191) := fun b => by
              unfold P4
              split <;> split <;> omega
            match r with
            | [] => exact u_bad HS.out _ _ _ (by omega) (by rw [nx1, if_neg c0]) (fun h => by simp at h)
            | b :: r =>
              by_cases c4 : P4 (ub a) (ub b)
              · have hb := (hp _).1 c4
                rw [u1 _ _ _ _ hl1 HS.out, if_pos ⟨by omega, by simp, by rw [bt1]; exact hb.1, by rw [bt1]; exact hb.2⟩]
                match r with
                | [] =>
                  rw [u2 _ _ _ _ (by simp) HS.out, if_neg (fun h => by have := h.2.1; simp at this), if_neg (by omega), nx2, if_neg c0, if_neg (n2 _), if_pos (.inr c4)]
                | c :: r =>
                  by_cases c8 : C8 (ub c)
                  · rw [u2 _ _ _ _ (by simp) HS.out, if_pos ⟨by omega, by simp, by rw [bt2]; exact c8.1, by rw [bt2]; exact c8.2⟩]
                    match r with
                    | [] => rw [u3 _ _ _ _ (by simp) HS.out, if_neg (fun h => by have := h.2.1; simp at this), if_neg (by omega), nx3, if_neg c0, if_neg (n2 _), if_neg (n3 _), if_pos c4, if_pos c8]
                    | d :: r =>
                      by_cases d8 : C8 (ub d)
                      · rw [u3 _ _ _ _ (by simp) HS.out, if_pos ⟨by omega, by simp, by rw [bt3]; exact d8.1, by rw [bt3]; exact d8.2⟩, u4 _ _ _ (by simp) HS.out, nx4, if_neg c0, if_neg (n2 _), if_neg (n3 _), if_pos c4, if_pos c8, if_pos d8]
                        show some (((Lib.decodeGo (mkB [a, b, c, d])).1 : Int), (4 : Int), true) = _
                        rw [dec4 a b c d c4 c8 d8]
                      · rw [u3 _ _ _ _ (by simp) HS.out, if_neg (fun h => d8 ⟨by have := h.2.2.1; rw [bt3] at this; exact this, by have := h.2.2.2; rw [bt3] at this; exact this⟩), if_neg (by omega), nx4, if_neg c0, if_neg (n2 _), if_neg (n3 _), if_pos c4, if_pos c8, if_neg d8]
                  · have e : nxL (a :: b :: c :: r) = (65533, 2, false) := by
                      match r with
                      | [] => rw [nx3, if_neg c0, if_neg (n2 _), if_neg (n3 _), if_pos c4, if_neg c8]
                      | d :: r => rw [nx4, if_neg c0, if_neg (n2 _), if_neg (n3 _), if_pos c4, if_neg c8]
                    rw [e, u2 _ _ _ _ (by simp) HS.out, if_neg (fun h => c8 ⟨by have := h.2.2.1; rw [bt2] at this; exact this, by have := h.2.2.2; rw [bt2] at this; exact this⟩), if_neg (by omega)]
              · refine u_bad HS.out _ _ _ (by omega) ?_ (fun h => c4 ((hp _).2 ⟨by have := h.2.1; rw [bt1] at this; exact this, by have := h.2.2; rw [bt1] at this; exact this⟩))
                match r with
                | [] => rw [nx2, if_neg c0, if_neg (n2 _), if_neg (fun h => h.elim (n3 _) c4)]
                | [c] => rw [nx3, if_neg c0, if_neg (n2 _), if_neg (n3 _), if_neg c4]
                | c :: d :: r => rw [nx4, if_neg c0, if_neg (n2 _), if_neg (n3 _), if_neg c4]
          · rw [if_neg r4]
            dsimp only
            have n4 : ∀ b, ¬ P4 (ub a) b := fun b h => r4 ⟨h.1, h.2.1⟩
            have e : nxL (a :: r) = (65533, 1, false) := by
              match r with
              | [] => rw [nx1, if_neg c0]
              | [b] => rw [nx2, if_neg c0, if_neg (n2 _), if_neg (fun h => h.elim (n3 _) (n4 _))]
              | [b, c] => rw [nx3, if_neg c0, if_neg (n2 _), if_neg (n3 _), if_neg (n4 _)]
              | b :: c :: d :: r => rw [nx4, if_neg c0, if_neg (n2 _), if_neg (n3 _), if_neg (n4 _)]
            rw [e, u1 _ _ _ _ hl1 HS.out, if_neg (fun h => by have := h.1; omega), if_neg (by omega)]

theorem nx_len {t : List UInt8} (h : t ≠ []) : 1 ≤ (nxL t).2.1 ∧ (nxL t).2.1 ≤ (t.length : Int) := by
  match t, h with
  | [a], _ => rw [nx1]; split <;> simp
  | [a, b], _ => rw [nx2]; repeat' split
                 all_goals simp
  | [a, b, c], _ => rw [nx3]; repeat' split
                    all_goals simp
  | a :: b :: c :: d :: r, _ => rw [nx4]; repeat' split
                                all_goals simp
                                all_goals omega
def decL : Nat → List UInt8 → List Int
  | 0, _ => []
  | f + 1, t => if t = [] then [] else (nxL t).1 :: decL f (t.drop (nxL t).2.1.toNat)
theorem decL_len : ∀ (f : Nat) (t : List UInt8), (decL f t).length ≤ f
  | 0, _ => Nat.zero_le _
  | f + 1, t => by
    rw [decL]
    split
    · simp
    · have := decL_len f (t.drop (nxL t).2.1.toNat)
      simp only [List.length_cons]
      omega
theorem allO_dec : ∀ (f : Nat) (t : List UInt8), t.length ≤ f → t.length ≤ 1000000000 → ∃ xs, allO f (mkB t) = some xs ∧ xs.map Prod.fst = decL f t
  | 0, t, h, hs => by
    have e : t = [] := List.length_eq_zero_iff.1 (by omega)
    subst e
    exact ⟨[], allO_nil 0 rfl, rfl⟩
  | f + 1, t, h, hs => by
    by_cases e : t = []
    · subst e
      exact ⟨[], allO_nil _ rfl, by rw [decL, if_pos rfl]; rfl⟩
    · have hl := nx_len e
      have hne := List.length_pos_iff.2 e
      obtain ⟨xs, h1, h2⟩ := allO_dec f (t.drop (nxL t).2.1.toNat) (by rw [List.length_drop]; omega) (by rw [List.length_drop]; omega)
      refine ⟨((nxL t).1, (nxL t).2.2) :: xs, ?_, ?_⟩
      · rw [allO, if_neg (by rw [mkB_size]; omega), utfNext_is t hs, Option.bind_some, if_pos (by rw [mkB_size]; omega), ext_drop, h1]
        rfl
      · rw [decL, if_neg e, ← h2]
        rfl
theorem utfDecode_is (t : List UInt8) (hs : t.length ≤ 1000000000) : utf_Decode.f (mkB t) = some (decL t.length t) := by
  obtain ⟨xs, h1, h2⟩ := allO_dec t.length t (Nat.le_refl _) hs
  unfold utf_Decode.f
  rw [if_pos (by rw [mkB_size]; exact hs), mkB_size, h1]
  show some (xs.map Prod.fst) = _
  rw [h2]
theorem refDecode_l0 : ∀ (f : Nat) (t : List UInt8) (acc : List Int), t.length ≤ f → acc.length + f ≤ 1000000000 → Ev (fun k => portcullisref01_Decode.l0 k (mkB t) acc) (acc ++ decL f t)
  | f, [], acc, h, ha => by
    have e : decL f [] = [] := by cases f <;> rfl
    rw [e, List.append_nil]
    exact Ev.one fun k => by rw [portcullisref01_Decode.l0, if_pos (by rw [Lib.toList_data, data_mkB])]
  | 0, a :: r, acc, h, ha => by simp at h
  | f + 1, a :: r, acc, h, ha => by
    have hne : a :: r ≠ [] := by simp
    have hl := nx_len hne
    have ih := refDecode_l0 f ((a :: r).drop (nxL (a :: r)).2.1.toNat) (acc ++ [(nxL (a :: r)).1]) (by rw [List.length_drop]; omega) (by simp; omega)
    have e : acc ++ decL (f + 1) (a :: r) = (acc ++ [(nxL (a :: r)).1]) ++ decL f ((a :: r).drop (nxL (a :: r)).2.1.toNat) := by rw [decL, if_neg hne]; simp
    rw [e]
    refine Ev.stepG 40 (fun k hk => ?_) ih
    obtain ⟨k, rfl⟩ : ∃ k', k = k' + 40 := ⟨k - 40, by omega⟩
    rw [portcullisref01_Decode.l0, if_neg (by rw [Lib.toList_data, data_mkB]; exact hne), refNext_is, Option.bind_some, if_pos (by omega), if_pos (by omega), if_pos (by rw [mkB_size]; omega), ext_drop]
theorem refDecode_is (t : List UInt8) (hs : t.length ≤ 1000000000) : Ev (fun k => portcullisref01_Decode.f k (mkB t)) (decL t.length t) := by
  have := refDecode_l0 t.length t [] (Nat.le_refl _) (by simp; omega)
  rw [List.nil_append] at this
  exact Ev.of_eq (fun k => by unfold portcullisref01_Decode.f; rfl) this

theorem strOfNums_append (x y : List Int) : strOfNums (x ++ y) = strOfNums x ++ strOfNums y := by
  apply ByteArray.ext
  rw [ByteArray.data_append]
  unfold strOfNums
  simp
theorem strOfNums_size (x : List Int) : (strOfNums x).size = x.length := by
  unfold strOfNums
  simp [ByteArray.size]
theorem valid_is (x : Int) : Lib.validRune x = decide (Scal x) := by
  unfold Lib.validRune
  rw [decide_eq_decide]
  unfold Scal
  omega
theorem refEnc_l0 (l : List Int) (hl : l.length ≤ 1000000) : ∀ (rest pre : List Int) (acc : ByteArray), l = pre ++ rest → acc.size ≤ 4 * pre.length →
    Ev (fun k => portcullisref01_Encode.l0 k l acc (pre.length : Int)) (if rest.all Lib.validRune = true then (acc ++ strOfNums (runesZ rest), true) else ((⟨#[]⟩ : ByteArray), false))
  | [], pre, acc, h, ha => by
    have e : acc ++ strOfNums (runesZ []) = acc := by
      apply ByteArray.ext
      rw [ByteArray.data_append]
      show acc.data ++ #[] = acc.data
      simp
    rw [if_pos (by rfl), e]
    exact Ev.one fun k => by rw [portcullisref01_Encode.l0, if_neg (by rw [h]; simp)]
  | x :: rest, pre, acc, h, ha => by
    have hr : rd l (pre.length : Int) = x := by rw [h]; exact rd_app pre _ x
    have hlen : l.length = pre.length + (rest.length + 1) := by rw [h]; simp
    by_cases c : Scal x
    · have hv : Lib.validRune x = true := by rw [valid_is, decide_eq_true c]
      have hz := encodeZ_len x
      have hsz := strOfNums_size (Lib.encodeRuneZ x)
      have ih := refEnc_l0 l hl rest (pre ++ [x]) (acc ++ strOfNums (Lib.encodeRuneZ x)) (by rw [h]; simp) (by rw [ByteArray.size_append, hsz]; simp; omega)
      have e : (if (x :: rest).all Lib.validRune = true then (acc ++ strOfNums (runesZ (x :: rest)), true) else ((⟨#[]⟩ : ByteArray), false)) = (if rest.all Lib.validRune = true then (acc ++ strOfNums (Lib.encodeRuneZ x) ++ strOfNums (runesZ rest), true) else ((⟨#[]⟩ : ByteArray), false)) := by
        have e1 : runesZ (x :: rest) = Lib.encodeRuneZ x ++ runesZ rest := rfl
        rw [List.all_cons, hv, Bool.true_and, e1, strOfNums_append, ByteArray.append_assoc]
      rw [e]
      refine Ev.step (fun k => ?_) ih
      rw [portcullisref01_Encode.l0, if_pos (by omega), if_pos (by omega), hr, scalar_is, Option.bind_some, if_pos (decide_eq_true c), bytes_is x c, Option.bind_some, if_pos (by omega), w64n _ (by omega)]
      simp only [List.length_append, List.length_cons, List.length_nil]
    · have hv : Lib.validRune x = false := by rw [valid_is, decide_eq_false c]
      rw [if_neg (by rw [List.all_cons, hv]; simp)]
      exact Ev.one fun k => by rw [portcullisref01_Encode.l0, if_pos (by omega), if_pos (by omega), hr, scalar_is, Option.bind_some, if_neg (by rw [decide_eq_false c]; decide)]
theorem refEnc_is (l : List Int) (hl : l.length ≤ 1000000) : Ev (fun k => (portcullisref01_Encode.f k l).bind fun b => some b.1) (encP l).1 := by
  obtain ⟨K, hK⟩ := refEnc_l0 l hl l [] ⟨#[]⟩ rfl (by simp [ByteArray.size])
  refine ⟨K, fun k hk => ?_⟩
  have e := hK k hk
  have e2 : portcullisref01_Encode.f k l = _ := e
  show (portcullisref01_Encode.f k l).bind (fun b => some b.1) = _
  rw [e2, Option.bind_some]
  unfold encP
  have e0 : ∀ b : ByteArray, (⟨#[]⟩ : ByteArray) ++ b = b := fun b => by
    apply ByteArray.ext
    rw [ByteArray.data_append]
    simp
  by_cases c : l.all Lib.validRune = true
  · rw [if_pos c, if_pos c, e0]
  · rw [if_neg c, if_neg c]

end Go.Proofs.YtncbbgmhmofhnaaDoor.Pr
end

section
namespace Go.Proofs.YtncbbgmhmofhnaaDoor.Pr
open Go.RowKit Go.Proofs.YtncbbgmhmofhnaaDoorW.PrintWords Go.Proofs.YtncbbgmhmofhnaaDoorW.PrintLast Go.Proofs.YtncbbgmhmofhnaaDoorW.PrintMore
set_option linter.unusedVariables false
set_option linter.unusedSimpArgs false

abbrev u8Z (x : Int) : UInt8 := x.toNat.toUInt8
theorem ub_of {x : Int} (h : 0 ≤ x) (h2 : x < 256) : ub (u8Z x) = x := by
  unfold ub u8Z
  simp
  omega
def encB (c : Int) : List UInt8 := (Lib.encodeRuneZ c).map u8Z
def encL (l : List Int) : List UInt8 := l.flatMap encB
theorem runes_enc (l : List Int) : strOfNums (runesZ l) = mkB (encL l) := by
  have e : runesZ l = ints (encL l) := by
    induction l with
    | nil => rfl
    | cons c l ih =>
      have e1 : runesZ (c :: l) = Lib.encodeRuneZ c ++ runesZ l := rfl
      have e2 : encL (c :: l) = encB c ++ encL l := rfl
      rw [e1, e2, ih]
      unfold ints encB
      rw [List.map_append, List.map_map]
      congr 1
      conv => lhs; rw [← List.map_id (Lib.encodeRuneZ c)]
      refine List.map_congr_left fun x hx => ?_
      have := Lib.encodeRuneZ_byte c x hx
      exact (ub_of this.1 this.2).symm
  rw [e, strOfNums_ints]
theorem encP_scal {l : List Int} (h : ∀ x ∈ l, Scal x) : encP l = (mkB (encL l), 0) := by
  unfold encP
  have : l.all Lib.validRune = true := List.all_eq_true.2 fun x hx => by rw [valid_is]; exact decide_eq_true (h x hx)
  rw [if_pos this, runes_enc]

theorem nx_scal (t : List UInt8) : Scal (nxL t).1 := by
  have hz : Scal 65533 := by unfold Scal; omega
  have h1 : ∀ a : UInt8, ub a < 128 → Scal (ub a) := fun a h => by have := ub_rng a; unfold Scal; omega
  have h2 : ∀ a b : UInt8, P2 (ub a) (ub b) → Scal (v2 (ub a) (ub b)) := fun a b h => by unfold P2 at h; unfold Scal v2; omega
  have h3 : ∀ a b c : UInt8, P3 (ub a) (ub b) → C8 (ub c) → Scal (v3 (ub a) (ub b) (ub c)) := fun a b c h hc => by unfold P3 at h; unfold C8 at hc; unfold Scal v3; omega
  have h4 : ∀ a b c d : UInt8, P4 (ub a) (ub b) → C8 (ub c) → C8 (ub d) → Scal (v4 (ub a) (ub b) (ub c) (ub d)) := fun a b c d h hc hd => by unfold P4 at h; unfold C8 at hc hd; unfold Scal v4; omega
  match t with
  | [] => show Scal 0; unfold Scal; omega
  | [a] =>
    rw [nx1]
    by_cases c0 : ub a < 128
    · rw [if_pos c0]; exact h1 a c0
    · rw [if_neg c0]; exact hz
  | [a, b] =>
    rw [nx2]
    by_cases c0 : ub a < 128
    · rw [if_pos c0]; exact h1 a c0
    · rw [if_neg c0]
      by_cases c2 : P2 (ub a) (ub b)
      · rw [if_pos c2]; exact h2 a b c2
      · rw [if_neg c2]
        by_cases c3 : P3 (ub a) (ub b) ∨ P4 (ub a) (ub b)
        · rw [if_pos c3]; exact hz
        · rw [if_neg c3]; exact hz
  | [a, b, c] =>
    rw [nx3]
    by_cases c0 : ub a < 128
    · rw [if_pos c0]; exact h1 a c0
    · rw [if_neg c0]
      by_cases c2 : P2 (ub a) (ub b)
      · rw [if_pos c2]; exact h2 a b c2
      · rw [if_neg c2]
        by_cases c8 : C8 (ub c)
        · rw [if_pos c8, if_pos c8]
          by_cases c3 : P3 (ub a) (ub b)
          · rw [if_pos c3]; exact h3 a b c c3 c8
          · rw [if_neg c3]
            by_cases c4 : P4 (ub a) (ub b)
            · rw [if_pos c4]; exact hz
            · rw [if_neg c4]; exact hz
        · rw [if_neg c8, if_neg c8]
          by_cases c3 : P3 (ub a) (ub b)
          · rw [if_pos c3]; exact hz
          · rw [if_neg c3]
            by_cases c4 : P4 (ub a) (ub b)
            · rw [if_pos c4]; exact hz
            · rw [if_neg c4]; exact hz
  | a :: b :: c :: d :: r =>
    rw [nx4]
    by_cases c0 : ub a < 128
    · rw [if_pos c0]; exact h1 a c0
    · rw [if_neg c0]
      by_cases c2 : P2 (ub a) (ub b)
      · rw [if_pos c2]; exact h2 a b c2
      · rw [if_neg c2]
        by_cases c8 : C8 (ub c)
        · rw [if_pos c8, if_pos c8]
          by_cases c3 : P3 (ub a) (ub b)
          · rw [if_pos c3]; exact h3 a b c c3 c8
          · rw [if_neg c3]
            by_cases c4 : P4 (ub a) (ub b)
            · rw [if_pos c4]
              by_cases d8 : C8 (ub d)
              · rw [if_pos d8]; exact h4 a b c d c4 c8 d8
              · rw [if_neg d8]; exact hz
            · rw [if_neg c4]; exact hz
        · rw [if_neg c8, if_neg c8]
          by_cases c3 : P3 (ub a) (ub b)
          · rw [if_pos c3]; exact hz
          · rw [if_neg c3]
            by_cases c4 : P4 (ub a) (ub b)
            · rw [if_pos c4]; exact hz
            · rw [if_neg c4]; exact hz
theorem decL_scal : ∀ (f : Nat) (t : List UInt8), ∀ x ∈ decL f t, Scal x
  | 0, _, x, hx => by simp [decL] at hx
  | f + 1, t, x, hx => by
    rw [decL] at hx
    split at hx
    · simp at hx
    · rcases List.mem_cons.1 hx with rfl | hx
      · exact nx_scal t
      · exact decL_scal f _ x hx
theorem dec_stab : (ptsU.all fun r => (apartK 4 r).all fun x => decide (0 ≤ x ∧ x ≤ 1114111 ∧ (x < 55296 ∨ 57343 < x))) = true := by decide +kernel
theorem apart_scal {r : Int} (h : Scal r) : ∀ y ∈ apartK 4 r, Scal y := fun y hy => by
  by_cases hm : r ∈ ptsU
  · show 0 ≤ y ∧ y ≤ 1114111 ∧ (y < 55296 ∨ 57343 < y)
    exact of_decide_eq_true (List.all_eq_true.1 (List.all_eq_true.1 dec_stab r hm) y hy)
  · rw [apartK_nil (decU_pts hm)] at hy
    rw [List.mem_singleton.1 hy]
    exact h
theorem nfd_scal {l : List Int} (h : ∀ x ∈ l, Scal x) : ∀ y ∈ nfdU l, Scal y := fun y hy => by
  have hy2 : y ∈ apL l := (ordM_perm clsU (apL l)).mem_iff.1 hy
  unfold apL at hy2
  obtain ⟨x, hx, hy3⟩ := List.mem_flatMap.1 hy2
  exact apart_scal (h x hx) y hy3
def skipU (r : Int) : Bool := r == 173 || r == 8204 || r == 8205
def likeT : List (Int × List Int) := [(48, [111]), (49, [108]), (109, [114, 110]), (945, [97]), (957, [118]), (959, [111]), (961, [112]), (1072, [97]), (1077, [101]), (1086, [111]), (1088, [112]), (1089, [99]), (1091, [121]), (1093, [120]), (1109, [115]), (1110, [105]), (1112, [106]), (1505, [111]), (1575, [108]), (12540, [19968])]
def likeU (r : Int) : List Int := match likeT.find? (fun p => p.1 == r) with
  | some p => p.2
  | none => [r]
def foldU (l : List Int) : List Int := l.flatMap fun r => if skipU r = true then [] else likeU r
def skU (l : List Int) : List Int := nfdU (foldU (nfdU l))
theorem foldU_append (a b : List Int) : foldU (a ++ b) = foldU a ++ foldU b := List.flatMap_append
end Go.Proofs.YtncbbgmhmofhnaaDoor.Pr
end

section
namespace Go.Proofs.YtncbbgmhmofhnaaDoor.Pr
open Go.RowKit Go.Proofs.YtncbbgmhmofhnaaDoorW.PrintWords Go.Proofs.YtncbbgmhmofhnaaDoorW.PrintLast Go.Proofs.YtncbbgmhmofhnaaDoorW.PrintMore
set_option linter.unusedVariables false
set_option linter.unusedSimpArgs false

theorem like_none (r : Int) (h48 : ¬ r = 48) (h49 : ¬ r = 49) (h109 : ¬ r = 109) (h945 : ¬ r = 945) (h957 : ¬ r = 957) (h959 : ¬ r = 959) (h961 : ¬ r = 961) (h1072 : ¬ r = 1072) (h1077 : ¬ r = 1077) (h1086 : ¬ r = 1086) (h1088 : ¬ r = 1088) (h1089 : ¬ r = 1089) (h1091 : ¬ r = 1091) (h1093 : ¬ r = 1093) (h1109 : ¬ r = 1109) (h1110 : ¬ r = 1110) (h1112 : ¬ r = 1112) (h1505 : ¬ r = 1505) (h1575 : ¬ r = 1575) (h12540 : ¬ r = 12540) : likeU r = [r] := by
  have : likeT.find? (fun p => p.1 == r) = none := List.find?_eq_none.2 fun p hp => by
    simp only [likeT, List.mem_cons, List.not_mem_nil, or_false] at hp
    rcases hp with rfl | rfl | rfl | rfl | rfl | rfl | rfl | rfl | rfl | rfl | rfl | rfl | rfl | rfl | rfl | rfl | rfl | rfl | rfl | rfl <;> simp <;> omega
  unfold likeU
  rw [this]
theorem like_both (k : Nat) (r : Int) : portcullisref03_Like.f r = some (likeU r) ∧ unidata_Like.f (k + 5) r = some (likeU r) := by
  by_cases h48 : r = 48
  · subst h48; exact ⟨by kernel_rfl, by kernel_rfl⟩
  by_cases h49 : r = 49
  · subst h49; exact ⟨by kernel_rfl, by kernel_rfl⟩
  by_cases h109 : r = 109
  · subst h109; exact ⟨by kernel_rfl, by kernel_rfl⟩
  by_cases h945 : r = 945
  · subst h945; exact ⟨by kernel_rfl, by kernel_rfl⟩
  by_cases h957 : r = 957
  · subst h957; exact ⟨by kernel_rfl, by kernel_rfl⟩
  by_cases h959 : r = 959
  · subst h959; exact ⟨by kernel_rfl, by kernel_rfl⟩
  by_cases h961 : r = 961
  · subst h961; exact ⟨by kernel_rfl, by kernel_rfl⟩
  by_cases h1072 : r = 1072
  · subst h1072; exact ⟨by kernel_rfl, by kernel_rfl⟩
  by_cases h1077 : r = 1077
  · subst h1077; exact ⟨by kernel_rfl, by kernel_rfl⟩
  by_cases h1086 : r = 1086
  · subst h1086; exact ⟨by kernel_rfl, by kernel_rfl⟩
  by_cases h1088 : r = 1088
  · subst h1088; exact ⟨by kernel_rfl, by kernel_rfl⟩
  by_cases h1089 : r = 1089
  · subst h1089; exact ⟨by kernel_rfl, by kernel_rfl⟩
  by_cases h1091 : r = 1091
  · subst h1091; exact ⟨by kernel_rfl, by kernel_rfl⟩
  by_cases h1093 : r = 1093
  · subst h1093; exact ⟨by kernel_rfl, by kernel_rfl⟩
  by_cases h1109 : r = 1109
  · subst h1109; exact ⟨by kernel_rfl, by kernel_rfl⟩
  by_cases h1110 : r = 1110
  · subst h1110; exact ⟨by kernel_rfl, by kernel_rfl⟩
  by_cases h1112 : r = 1112
  · subst h1112; exact ⟨by kernel_rfl, by kernel_rfl⟩
  by_cases h1505 : r = 1505
  · subst h1505; exact ⟨by kernel_rfl, by kernel_rfl⟩
  by_cases h1575 : r = 1575
  · subst h1575; exact ⟨by kernel_rfl, by kernel_rfl⟩
  by_cases h12540 : r = 12540
  · subst h12540; exact ⟨by kernel_rfl, by kernel_rfl⟩
  rw [like_none r h48 h49 h109 h945 h957 h959 h961 h1072 h1077 h1086 h1088 h1089 h1091 h1093 h1109 h1110 h1112 h1505 h1575 h12540]
  refine ⟨?_, ?_⟩
  · simp [portcullisref03_Like.f, *]
  · simp [unidata_Like.f, unidata_Like.j0, unidata_Like.j1, unidata_Like.j2, unidata_Like.j3, *]

theorem apart_tab4 : (ptsU.all fun r => decide ((apartK 4 r).length ≤ 4)) = true := by decide +kernel
theorem apart_len4 (r : Int) : (apartK 4 r).length ≤ 4 := by
  by_cases hm : r ∈ ptsU
  · exact of_decide_eq_true (List.all_eq_true.1 apart_tab4 r hm)
  · rw [apartK_nil (decU_pts hm)]; simp
theorem apL_len4 : ∀ l : List Int, (apL l).length ≤ 4 * l.length
  | [] => Nat.zero_le _
  | x :: l => by
    have h1 := apart_len4 x
    have h2 := apL_len4 l
    have e : apL (x :: l) = apartK 4 x ++ apL l := rfl
    rw [e, List.length_append, List.length_cons]
    omega
theorem nfd_len4 (l : List Int) : (nfdU l).length ≤ 4 * l.length := by
  have := apL_len4 l
  unfold nfdU
  rw [ordM_len]; exact this
theorem like_ltab : (likeT.all fun p => decide (p.2.length ≤ 2) && p.2.all fun y => decide (0 ≤ y ∧ y ≤ 1114111 ∧ (y < 55296 ∨ 57343 < y))) = true := by decide +kernel
theorem like_all (r : Int) (h : Scal r) : (likeU r).length ≤ 2 ∧ ∀ y ∈ likeU r, Scal y := by
  unfold likeU
  cases hf : likeT.find? (fun p => p.1 == r) with
  | some p =>
    have h1 := List.all_eq_true.1 like_ltab p (List.mem_of_find?_eq_some hf)
    simp only [Bool.and_eq_true, decide_eq_true_eq, List.all_eq_true] at h1
    exact ⟨h1.1, fun y hy => h1.2 y hy⟩
  | none => exact ⟨by simp, fun y hy => by rw [List.mem_singleton.1 hy]; exact h⟩
theorem fold_scal {l : List Int} (h : ∀ x ∈ l, Scal x) : ∀ y ∈ foldU l, Scal y := fun y hy => by
  obtain ⟨x, hx, hy2⟩ := List.mem_flatMap.1 hy
  split at hy2
  · simp at hy2
  · exact (like_all x (h x hx)).2 y hy2
theorem fold_len : ∀ {l : List Int}, (∀ x ∈ l, Scal x) → (foldU l).length ≤ 2 * l.length
  | [], _ => Nat.zero_le _
  | x :: l, h => by
    have h1 := (like_all x (h x List.mem_cons_self)).1
    have h2 := fold_len fun y hy => h y (List.mem_cons_of_mem x hy)
    have e : foldU (x :: l) = (if skipU x = true then [] else likeU x) ++ foldU l := rfl
    rw [e, List.length_append, List.length_cons]
    split
    · simp; omega
    · omega
theorem sk_scal {l : List Int} (h : ∀ x ∈ l, Scal x) : ∀ y ∈ skU l, Scal y := nfd_scal (fold_scal (nfd_scal h))
theorem scal_rng {x : Int} (h : Scal x) : -2147483648 ≤ x ∧ x ≤ 2147483647 := by unfold Scal at h; omega

theorem foldU_snoc (pre : List Int) (x : Int) : foldU (pre ++ [x]) = foldU pre ++ (if skipU x = true then [] else likeU x) := by
  rw [foldU_append]
  congr 1
  exact List.append_nil _
theorem skip_or {x : Int} (h : skipU x = true) : x = 173 ∨ x = 8204 ∨ x = 8205 := by
  unfold skipU at h
  simp only [Bool.or_eq_true, beq_iff_eq] at h
  omega
theorem skip_no {x : Int} (h : ¬ skipU x = true) : x ≠ 173 ∧ x ≠ 8204 ∧ x ≠ 8205 := by
  unfold skipU at h
  simp only [Bool.or_eq_true, beq_iff_eq] at h
  omega
theorem fold_pre (d pre rest : List Int) (h : d = pre ++ rest) : (foldU pre).length ≤ (foldU d).length := by
  rw [h, foldU_append, List.length_append]; omega
theorem skel_l0 (d : List Int) (hd : d.length ≤ 60000) (hf : (foldU d).length ≤ 60000) (hs : ∀ x ∈ nfdU (foldU d), Scal x) : ∀ (rest pre : List Int), d = pre ++ rest → Ev (fun k => skel_Skeleton.l0 k (foldU pre) d (d.length : Int) (pre.length : Int)) (mkB (encL (nfdU (foldU d))))
  | [], pre, h => by
    have e : d = pre := by rw [h]; simp
    have hl := nfd_len (foldU d)
    refine Ev.one fun k => ?_
    rw [skel_Skeleton.l0, if_neg (by rw [e]; omega), ← e, nfd_is _ hf, Option.bind_some]
    unfold utf_Encode.f
    rw [if_pos ⟨by omega, fun x hx => scal_rng (hs x hx)⟩, Option.bind_some, encP_scal hs]
  | x :: rest, pre, h => by
    have hr : rd d (pre.length : Int) = x := by rw [h]; exact rd_app pre _ x
    have hl : d.length = pre.length + (rest.length + 1) := by rw [h]; simp
    have hw : wrap64 ((pre.length : Int) + 1) = (((pre ++ [x]).length : Nat) : Int) := by rw [w64n _ (by omega)]; simp
    have ih := skel_l0 d hd hf hs rest (pre ++ [x]) (by rw [h]; simp)
    have hfp := fold_pre d (pre ++ [x]) rest (by rw [h]; simp)
    rw [foldU_snoc] at ih hfp
    by_cases hk : skipU x = true
    · rw [if_pos hk, List.append_nil] at ih
      refine Ev.step (fun k => ?_) ih
      rw [skel_Skeleton.l0, if_pos (by omega), if_pos (by omega), if_pos (by omega), hr, hw]
      rcases skip_or hk with e | e | e
      · rw [if_pos e]
      · rw [if_neg (by omega), if_pos e]
      · rw [if_neg (by omega), if_neg (by omega), if_pos e]
    · rw [if_neg hk] at ih hfp
      rw [List.length_append] at hfp
      obtain ⟨n1, n2, n3⟩ := skip_no hk
      refine Ev.stepG 5 (fun k hk5 => ?_) ih
      obtain ⟨k, rfl⟩ : ∃ k', k = k' + 5 := ⟨k - 5, by omega⟩
      rw [skel_Skeleton.l0, if_pos (by omega), if_pos (by omega), if_pos (by omega), hr, hw, if_neg n1, if_neg n2, if_neg n3, (like_both k x).2, Option.bind_some, if_pos (by omega)]
theorem refSkel_l0 (d : List Int) (hd : d.length ≤ 60000) (hf : (foldU d).length ≤ 60000) (hs : ∀ x ∈ nfdU (foldU d), Scal x) : ∀ (rest pre : List Int), d = pre ++ rest → Ev (fun k => portcullisref08_Skeleton.l0 k d (foldU pre) (pre.length : Int)) (mkB (encL (nfdU (foldU d))))
  | [], pre, h => by
    have e : d = pre := by rw [h]; simp
    have hl := nfd_len (foldU d)
    obtain ⟨K1, h1⟩ := refNFD_is (foldU d) hf
    obtain ⟨K2, h2⟩ := refEnc_is (nfdU (foldU d)) (by omega)
    refine Ev.stepG (f := fun _ => some (mkB (encL (nfdU (foldU d))))) (K1 + K2) (fun k hk => ?_) (Ev.now fun _ => rfl)
    have e1 := h1 k (by omega)
    have e2 := h2 k (by omega)
    simp only at e1 e2
    rw [portcullisref08_Skeleton.l0, if_neg (by rw [e]; omega), ← e, e1, Option.bind_some, e2, encP_scal hs]
  | x :: rest, pre, h => by
    have hr : rd d (pre.length : Int) = x := by rw [h]; exact rd_app pre _ x
    have hl : d.length = pre.length + (rest.length + 1) := by rw [h]; simp
    have hw : wrap64 ((pre.length : Int) + 1) = (((pre ++ [x]).length : Nat) : Int) := by rw [w64n _ (by omega)]; simp
    have ih := refSkel_l0 d hd hf hs rest (pre ++ [x]) (by rw [h]; simp)
    have hfp := fold_pre d (pre ++ [x]) rest (by rw [h]; simp)
    rw [foldU_snoc] at ih hfp
    by_cases hk : skipU x = true
    · rw [if_pos hk, List.append_nil] at ih
      refine Ev.step (fun k => ?_) ih
      rw [portcullisref08_Skeleton.l0, if_pos (by omega), if_pos (by omega), hr, hw]
      rcases skip_or hk with e | e | e
      · rw [if_pos e]
      · rw [if_neg (by omega), if_pos e]
      · rw [if_neg (by omega), if_neg (by omega), if_pos e]
    · rw [if_neg hk] at ih hfp
      rw [List.length_append] at hfp
      obtain ⟨n1, n2, n3⟩ := skip_no hk
      refine Ev.step (fun k => ?_) ih
      rw [portcullisref08_Skeleton.l0, if_pos (by omega), if_pos (by omega), hr, hw, if_neg n1, if_neg n2, if_neg n3, (like_both k x).1, Option.bind_some, if_pos (by omega)]
/-- The skeleton of bytes. -/
def skB (t : List UInt8) : List UInt8 := encL (skU (decL t.length t))
theorem skeleton_is (t : List UInt8) (ht : t.length ≤ 1000000000) (hd : (nfdU (decL t.length t)).length ≤ 60000) (hd0 : (decL t.length t).length ≤ 60000) (hf : (foldU (nfdU (decL t.length t))).length ≤ 60000) : Ev (fun k => skel_Skeleton.f k (mkB t)) (mkB (skB t)) := by
  have hs := sk_scal (decL_scal t.length t)
  have := skel_l0 (nfdU (decL t.length t)) hd hf hs (nfdU (decL t.length t)) [] rfl
  refine Ev.of_eq (fun k => ?_) this
  unfold skel_Skeleton.f
  rw [utfDecode_is t ht, Option.bind_some, nfd_is _ hd0, Option.bind_some]
  rfl
theorem refSkeleton_is (t : List UInt8) (ht : t.length ≤ 1000000000) (hd : (nfdU (decL t.length t)).length ≤ 60000) (hd0 : (decL t.length t).length ≤ 60000) (hf : (foldU (nfdU (decL t.length t))).length ≤ 60000) : Ev (fun k => portcullisref08_Skeleton.f k (mkB t)) (mkB (skB t)) := by
  have hs := sk_scal (decL_scal t.length t)
  obtain ⟨K0, h0⟩ := refSkel_l0 (nfdU (decL t.length t)) hd hf hs (nfdU (decL t.length t)) [] rfl
  obtain ⟨K1, h1⟩ := refDecode_is t ht
  obtain ⟨K2, h2⟩ := refNFD_is (decL t.length t) hd0
  refine ⟨K0 + K1 + K2, fun k hk => ?_⟩
  have e0 := h0 k (by omega)
  have e1 := h1 k (by omega)
  have e2 := h2 k (by omega)
  simp only at e0 e1 e2 ⊢
  unfold portcullisref08_Skeleton.f
  rw [e1, Option.bind_some, e2, Option.bind_some]
  exact e0
/-- A text whose skeleton may be asked. -/
structure Sma (t : List UInt8) : Prop where
  a : t.length ≤ 1000000000
  b : (nfdU (decL t.length t)).length ≤ 60000
  c : (decL t.length t).length ≤ 60000
  d : (foldU (nfdU (decL t.length t))).length ≤ 60000
theorem Sma.of (t : List UInt8) (h : t.length ≤ 7000) : Sma t := by
  have h1 := decL_len t.length t
  have h2 := nfd_len4 (decL t.length t)
  have h3 := fold_len (nfd_scal (decL_scal t.length t))
  exact ⟨by omega, by omega, by omega, by omega⟩
theorem Sma.is {t : List UInt8} (h : Sma t) : Ev (fun k => skel_Skeleton.f k (mkB t)) (mkB (skB t)) := skeleton_is t h.a h.b h.c h.d
theorem Sma.ref {t : List UInt8} (h : Sma t) : Ev (fun k => portcullisref08_Skeleton.f k (mkB t)) (mkB (skB t)) := refSkeleton_is t h.a h.b h.c h.d
theorem mkB_list (l : List UInt8) : (mkB l).toList = l := by rw [Lib.toList_data, data_mkB]
theorem alike_is {s t : List UInt8} (hs : Sma s) (ht : Sma t) : Ev (fun k => skel_Alike.f k (mkB s) (mkB t)) (decide (skB s = skB t)) := by
  obtain ⟨K1, h1⟩ := hs.is
  obtain ⟨K2, h2⟩ := ht.is
  refine ⟨K1 + K2, fun k hk => ?_⟩
  have e1 := h1 k (by omega)
  have e2 := h2 k (by omega)
  simp only at e1 e2 ⊢
  unfold skel_Alike.f
  rw [e1, Option.bind_some, e2, Option.bind_some, mkB_list, mkB_list]
  congr 1
  by_cases e : skB s = skB t
  · rw [e]; simp
  · rw [decide_eq_false e]; simpa using e
end Go.Proofs.YtncbbgmhmofhnaaDoor.Pr
end

section
namespace Go.Proofs.YtncbbgmhmofhnaaDoor.Pr
open Go.RowKit Go.Proofs.YtncbbgmhmofhnaaDoorW.PrintWords Go.Proofs.YtncbbgmhmofhnaaDoorW.PrintLast Go.Proofs.YtncbbgmhmofhnaaDoorW.PrintMore
set_option linter.unusedVariables false
set_option linter.unusedSimpArgs false

def scrN (r : Int) : Nat := (findU r).f3.toNat
theorem scr_tab : ((uT0 ++ uT1 ++ uT2).all fun y => decide (0 ≤ y.f3 ∧ y.f3 ≤ 11)) = true := by decide +kernel
theorem scr_rng (r : Int) : 0 ≤ (findU r).f3 ∧ (findU r).f3 ≤ 11 := by
  unfold findU
  cases e : (uT0 ++ uT1 ++ uT2).find? (inU r) with
  | none => exact ⟨by decide, by decide⟩
  | some y => exact of_decide_eq_true (List.all_eq_true.1 scr_tab y (List.mem_of_find?_eq_some e))
theorem scrN_lt (r : Int) : scrN r < 12 := by have := scr_rng r; unfold scrN; omega
theorem scr_is (r : Int) : unidata_Script.f r = some (scrN r : Int) := by
  have h : unidata_Script.f r = some (findU r).f3 := rfl
  have := scr_rng r
  rw [h]
  unfold scrN
  congr 1
  omega
theorem scr_R (r : Int) : (findR r).f6 = (scrN r : Int) := by
  have h := findR_U r
  have h2 : (findR r).f6 = (findU r).f3 := by rw [← h]; rfl
  have := scr_rng r
  rw [h2]
  unfold scrN
  omega
def mstep (b : Nat) (r : Int) : Nat := b ||| 2 ^ scrN r
def mskU (l : List Int) : Nat := l.foldl mstep 0
theorem two_lt {s : Nat} (h : s < 12) : 2 ^ s < 4096 := Nat.pow_lt_pow_right (by omega) h
theorem mstep_lt {b : Nat} (hb : b < 4096) (r : Int) : mstep b r < 4096 := Nat.or_lt_two_pow (n := 12) hb (two_lt (scrN_lt r))
theorem mfold_lt : ∀ (l : List Int) {b : Nat}, b < 4096 → l.foldl mstep b < 4096
  | [], _, h => h
  | x :: l, _, h => mfold_lt l (mstep_lt h x)
theorem mskU_lt (l : List Int) : mskU l < 4096 := mfold_lt l (by omega)
theorem mfold_or : ∀ (l : List Int) (b : Nat), l.foldl mstep b = b ||| mskU l
  | [], b => by simp [mskU]
  | x :: l, b => by
    show l.foldl mstep (mstep b x) = b ||| l.foldl mstep (mstep 0 x)
    rw [mfold_or l, mfold_or l (mstep 0 x)]
    unfold mstep
    rw [Nat.zero_or, Nat.or_assoc]
theorem mskU_bit : ∀ (l : List Int) (i : Nat), (mskU l).testBit i = l.any fun r => scrN r == i
  | [], i => by simp [mskU]
  | x :: l, i => by
    have e : mskU (x :: l) = mstep 0 x ||| mskU l := by
      show l.foldl mstep (mstep 0 x) = _
      rw [mfold_or]
    rw [e, Nat.testBit_or, mskU_bit l i, List.any_cons]
    unfold mstep
    rw [Nat.zero_or, Nat.testBit_two_pow]
    by_cases h : scrN x = i
    · subst h; simp
    · simp [h]
theorem bits_l0 (d : List Int) (hd : d.length ≤ 1000000000) : ∀ (rest pre : List Int) (b f : Nat), d = pre ++ rest → b < 4096 → rest.length + 1 ≤ f → skel_bits.l0 f (b : Int) d (d.length : Int) (pre.length : Int) = some (((rest.foldl mstep b) / 4 * 4 : Nat) : Int)
  | [], pre, b, f, h, hb, hf => by
    have e : d = pre := by rw [h]; simp
    obtain ⟨f, rfl⟩ : ∃ f', f = f' + 1 := ⟨f - 1, by omega⟩
    rw [skel_bits.l0, if_neg (by rw [e]; omega), not3_is b hb]
    rfl
  | x :: rest, pre, b, f, h, hb, hf => by
    have hr : rd d (pre.length : Int) = x := by rw [h]; exact rd_app pre _ x
    have hl : d.length = pre.length + (rest.length + 1) := by rw [h]; simp
    have hw : wrap64 ((pre.length : Int) + 1) = (((pre ++ [x]).length : Nat) : Int) := by rw [w64n _ (by omega)]; simp
    rw [List.length_cons] at hf
    obtain ⟨f, rfl⟩ : ∃ f', f = f' + 1 := ⟨f - 1, by omega⟩
    have hs := scrN_lt x
    have h2 := two_lt hs
    have ho : Go.bits .or .u16 (b : Int) (shl .u16 1 (scrN x : Int)) = ((mstep b x : Nat) : Int) := by
      rw [shl16_is _ hs, bits_or16 _ _ (by omega) (by omega)]
      rfl
    rw [skel_bits.l0, if_pos (by omega), if_pos (by omega), if_pos (by omega), hr, scr_is, Option.bind_some, if_pos (by omega), ho, hw]
    exact bits_l0 d hd rest (pre ++ [x]) (mstep b x) f (by rw [h]; simp) (mstep_lt hb x) (by omega)
/-- The mask of a text. -/
def mskB (t : List UInt8) : Nat := mskU (decL t.length t) / 4 * 4
theorem mskB_lt (t : List UInt8) : mskB t < 4096 := by
  have := mskU_lt (decL t.length t)
  unfold mskB
  omega
theorem bits_is (t : List UInt8) (ht : t.length ≤ 1000000000) (f : Nat) (hf : t.length + 1 ≤ f) : skel_bits.f f (mkB t) = some (mskB t : Int) := by
  have hl := decL_len t.length t
  unfold skel_bits.f
  rw [utfDecode_is t ht, Option.bind_some]
  exact bits_l0 (decL t.length t) (by omega) (decL t.length t) [] 0 f rfl (by omega) (by omega)
/-- The scripts of a text. -/
def scrB (t : List UInt8) : List Int := setF 16 0 (mskB t)
theorem scripts_is (t : List UInt8) (ht : t.length ≤ 1000000000) : skel_Scripts.f (mkB t) = some (scrB t) := by
  have := mskB_lt t
  unfold skel_Scripts.f
  rw [if_pos (by rw [mkB_size]; exact ht), bits_is t ht _ (by rw [mkB_size]; omega), Option.bind_some, if_pos (by omega), Int.toNat_natCast]
  rfl
def lowB (t : List UInt8) : Bool := t.all fun c => decide (ub c < 128)
theorem high_is (t : List UInt8) : highB (mkB t) = !lowB t := by
  have hb : ∀ j (h : j < t.length), byteN (mkB t) j = ub t[j] := fun j h => by
    unfold byteN ub
    rw [data_mkB, List.getD_eq_getElem?_getD, List.getElem?_eq_getElem h]
    rfl
  unfold highB lowB
  rw [mkB_size, Bool.eq_iff_iff]
  simp only [List.any_eq_true, List.mem_range, decide_eq_true_eq, Bool.not_eq_true', List.all_eq_false]
  constructor
  · rintro ⟨j, hj, h⟩
    exact ⟨t[j], List.getElem_mem hj, by rw [hb j hj] at h; omega⟩
  · rintro ⟨c, hc, h⟩
    obtain ⟨j, hj, rfl⟩ := List.getElem_of_mem hc
    exact ⟨j, hj, by rw [hb j hj]; omega⟩
/-- The level of a text. -/
def lvlB (t : List UInt8) : Int := if lowB t = true then 1 else lvI (mskB t : Int)
theorem level_is (t : List UInt8) (ht : t.length ≤ 1000000000) : skel_Level.f (mkB t) = some (lvlB t) := by
  have := mskB_lt t
  unfold skel_Level.f lvlB
  rw [if_pos (by rw [mkB_size]; exact ht), high_is]
  cases lowB t with
  | true => rfl
  | false =>
    show (if true = false then some 1 else _) = _
    rw [if_neg (by decide), bits_is t ht _ (by rw [mkB_size]; omega), Option.bind_some, if_pos (by omega)]
    rfl

theorem refScr_l1 (d : List Int) (acc : List Int) (x : Nat) (hx : x ≤ 11) (R : List Int) (hd : d.length ≤ 1000000000) (ha : acc.length ≤ 1000)
    (hc : Ev (fun k => portcullisref08_Scripts.l0 k d (if (d.any fun r => scrN r == x) = true then acc ++ [(x : Int)] else acc) (((x + 1 : Nat)) : Int)) R) :
    ∀ (rest pre : List Int), d = pre ++ rest → (pre.any fun r => scrN r == x) = false → Ev (fun k => portcullisref08_Scripts.l1 k d acc (x : Int) (pre.length : Int)) R
  | [], pre, h, hp => by
    have e : d = pre := by rw [h]; simp
    rw [e, hp, if_neg (by decide), ← e] at hc
    refine Ev.step (fun k => ?_) hc
    rw [portcullisref08_Scripts.l1, if_neg (by rw [e]; omega), show ((x : Int) + 1) % 256 = ((x + 1 : Nat) : Int) by omega]
  | y :: rest, pre, h, hp => by
    have hr : rd d (pre.length : Int) = y := by rw [h]; exact rd_app pre _ y
    have hl : d.length = pre.length + (rest.length + 1) := by rw [h]; simp
    have hw : wrap64 ((pre.length : Int) + 1) = (((pre ++ [y]).length : Nat) : Int) := by rw [w64n _ (by omega)]; simp
    by_cases hy : scrN y = x
    · have ht : (d.any fun r => scrN r == x) = true := List.any_eq_true.2 ⟨y, by rw [h]; simp, by simpa using hy⟩
      rw [if_pos ht] at hc
      refine Ev.stepG 100 (fun k hk => ?_) hc
      obtain ⟨k, rfl⟩ : ∃ k', k = k' + 100 := ⟨k - 100, by omega⟩
      rw [portcullisref08_Scripts.l1, if_pos (by omega), if_pos (by omega), hr, refFind_eq, Option.bind_some]
      have e1 : (tupR (findR y)).2.2.2.2.2.2.1 = (scrN y : Int) := scr_R y
      rw [e1, if_pos (by omega), if_pos (by omega), show ((x : Int) + 1) % 256 = ((x + 1 : Nat) : Int) by omega]
    · have ih := refScr_l1 d acc x hx R hd ha hc rest (pre ++ [y]) (by rw [h]; simp) (by rw [List.any_append, hp]; simpa using hy)
      refine Ev.stepG 100 (fun k hk => ?_) ih
      obtain ⟨k, rfl⟩ : ∃ k', k = k' + 100 := ⟨k - 100, by omega⟩
      rw [portcullisref08_Scripts.l1, if_pos (by omega), if_pos (by omega), hr, refFind_eq, Option.bind_some]
      have e1 : (tupR (findR y)).2.2.2.2.2.2.1 = (scrN y : Int) := scr_R y
      rw [e1, if_neg (by omega), hw]
theorem refScr_l0 (d : List Int) (hd : d.length ≤ 1000000000) : ∀ (n x : Nat) (acc : List Int), x + n = 12 → acc.length ≤ x →
    Ev (fun k => portcullisref08_Scripts.l0 k d acc (x : Int)) (acc ++ ((List.range' x n).filter fun y => d.any fun r => scrN r == y).map fun (y : Nat) => (y : Int))
  | 0, x, acc, h, _ => by
    refine Ev.one fun k => ?_
    rw [portcullisref08_Scripts.l0, if_neg (by omega)]
    simp
  | n + 1, x, acc, h, ha => by
    have ih := refScr_l0 d hd n (x + 1) (if (d.any fun r => scrN r == x) = true then acc ++ [(x : Int)] else acc) (by omega) (by
      split
      · simp; omega
      · omega)
    have e : (if (d.any fun r => scrN r == x) = true then acc ++ [(x : Int)] else acc) ++ ((List.range' (x + 1) n).filter fun y => d.any fun r => scrN r == y).map (fun (y : Nat) => (y : Int)) = acc ++ ((List.range' x (n + 1)).filter fun y => d.any fun r => scrN r == y).map fun (y : Nat) => (y : Int) := by
      rw [List.range'_succ, List.filter_cons]
      split <;> simp
    rw [e] at ih
    have := refScr_l1 d acc x (by omega) _ hd (by omega) ih d [] rfl rfl
    refine Ev.step (fun k => ?_) this
    rw [portcullisref08_Scripts.l0, if_pos (by omega)]
    rfl
theorem scrB_eq (t : List UInt8) : scrB t = ((List.range' 2 10).filter fun y => (decL t.length t).any fun r => scrN r == y).map fun (y : Nat) => (y : Int) := by
  unfold scrB mskB
  rw [set_is _ (mskU_lt _)]
  congr 1
  have e : ∀ q : Nat → Bool, (List.range 12).filter (fun i => decide (2 ≤ i) && q i) = (List.range' 2 10).filter q := fun q => by
    have e1 : List.range 12 = 0 :: 1 :: List.range' 2 10 := rfl
    rw [e1, List.filter_cons, if_neg (by simp), List.filter_cons, if_neg (by simp)]
    refine List.filter_congr fun i hi => ?_
    have := (List.mem_range'_1.1 hi).1
    simp [this]
  rw [e]
  exact List.filter_congr fun i _ => mskU_bit _ i
theorem refScripts_is (t : List UInt8) (ht : t.length ≤ 1000000000) : Ev (fun k => portcullisref08_Scripts.f k (mkB t)) (scrB t) := by
  have hl := decL_len t.length t
  obtain ⟨K1, h1⟩ := refDecode_is t ht
  obtain ⟨K2, h2⟩ := refScr_l0 (decL t.length t) (by omega) 10 2 [] rfl (by simp)
  refine ⟨K1 + K2, fun k hk => ?_⟩
  have e1 := h1 k (by omega)
  have e2 := h2 k (by omega)
  simp only at e1 e2 ⊢
  unfold portcullisref08_Scripts.f
  rw [e1, Option.bind_some, scrB_eq]
  exact e2

def refLvl (l : List Int) : Option Int := if (l.length : Int) ≤ 1 then some 2 else portcullisref08_Level.l1 20 l true false 0 0
theorem lvl_tab : ((List.range 1024).all fun m => refLvl (setF 16 0 (m * 4)) == some (lvI ((m * 4 : Nat) : Int))) = true := by decide +kernel
theorem lvl_is (t : List UInt8) : refLvl (scrB t) = some (lvI (mskB t : Int)) := by
  have h := mskU_lt (decL t.length t)
  exact eq_of_beq (List.all_eq_true.1 lvl_tab (mskU (decL t.length t) / 4) (List.mem_range.2 (by omega)))
theorem refLvl_ev (l : List Int) (r : Int) (h : refLvl l = some r) : Ev (fun k => if (l.length : Int) ≤ 1 then some 2 else portcullisref08_Level.l1 k l true false 0 0) r := by
  unfold refLvl at h
  split at h
  · next hc => exact Ev.now fun k => by rw [if_pos hc]; exact h
  · next hc =>
    refine ⟨20, fun k hk => ?_⟩
    show (if (l.length : Int) ≤ 1 then some 2 else portcullisref08_Level.l1 k l true false 0 0) = some r
    rw [if_neg hc]
    obtain ⟨j, rfl⟩ : ∃ j, k = 20 + j := ⟨k - 20, by omega⟩
    induction j with
    | zero => exact h
    | succ j ih => exact (portcullisref08_Level.mono_l (20 + j)).2 l true false 0 0 r (ih (by omega))
theorem refLevel_l0 (t : List UInt8) (ht : t.length ≤ 1000000000) : ∀ (rest pre : List UInt8) (b : Bool), t = pre ++ rest → lowB pre = b →
    Ev (fun k => portcullisref08_Level.l0 k (mkB t) b (pre.length : Int)) (lvlB t)
  | [], pre, b, h, hb => by
    have e : t = pre := by rw [h]; simp
    have hsz : ((mkB t).size : Int) = pre.length := by rw [mkB_size, e]
    cases b with
    | true =>
      refine Ev.one fun k => ?_
      rw [portcullisref08_Level.l0, if_neg (by rw [hsz]; omega), if_pos rfl]
      unfold lvlB
      rw [e, hb]
      rfl
    | false =>
      obtain ⟨K1, h1⟩ := refScripts_is t ht
      obtain ⟨K2, h2⟩ := refLvl_ev _ _ (lvl_is t)
      refine Ev.stepG (f := fun _ => some (lvlB t)) (K1 + K2) (fun k hk => ?_) (Ev.now fun _ => rfl)
      have e1 := h1 k (by omega)
      have e2 := h2 k (by omega)
      simp only at e1 e2
      rw [portcullisref08_Level.l0, if_neg (by rw [hsz]; omega), if_neg (by decide), e1, Option.bind_some, e2]
      unfold lvlB
      rw [e, hb]
      rfl
  | c :: rest, pre, b, h, hb => by
    have hl : t.length = pre.length + (rest.length + 1) := by rw [h]; simp
    have hsz : ((mkB t).size : Int) = t.length := by rw [mkB_size]
    have hw : wrap64 ((pre.length : Int) + 1) = (((pre ++ [c]).length : Nat) : Int) := by rw [w64n _ (by omega)]; simp
    have hbt : bt (mkB t) (pre.length : Int) = ub c := by
      rw [bt_mkB t pre.length (by omega)]
      unfold ub
      have : t[pre.length]'(by omega) = c := by simp [h]
      rw [this]
    have hlow : lowB (pre ++ [c]) = (b && decide (ub c < 128)) := by
      unfold lowB at hb ⊢
      rw [List.all_append, hb]
      simp
    cases b with
    | true =>
      have ih := refLevel_l0 t ht rest (pre ++ [c]) (decide (ub c < 128)) (by rw [h]; simp) (by rw [hlow]; simp)
      refine Ev.step (fun k => ?_) ih
      rw [portcullisref08_Level.l0, if_pos (by omega), if_pos rfl, if_pos (by omega), hbt, hw]
    | false =>
      have ih := refLevel_l0 t ht rest (pre ++ [c]) false (by rw [h]; simp) (by rw [hlow]; simp)
      refine Ev.step (fun k => ?_) ih
      rw [portcullisref08_Level.l0, if_pos (by omega), if_neg (by decide), hw]
theorem refLevel_is (t : List UInt8) (ht : t.length ≤ 1000000000) : Ev (fun k => portcullisref08_Level.f k (mkB t)) (lvlB t) := by
  have := refLevel_l0 t ht t [] true rfl rfl
  exact Ev.of_eq (fun k => by unfold portcullisref08_Level.f; rfl) this

theorem works_a : skB [109] = [114, 110] := by decide +kernel
theorem works_b : skB [114, 110] = [114, 110] := by decide +kernel
theorem works_c : skB [97] ≠ skB [98] := by decide +kernel
theorem works_d : skB [112, 208, 176, 121, 112, 97, 49] = [112, 97, 121, 112, 97, 108] := by decide +kernel
theorem works_e : lvlB [97, 98, 208, 176] = 5 := by decide +kernel
theorem works_f : lvlB [97, 98, 99] = 1 := by decide +kernel
theorem works_of : skel_Of.f ⟨#[76, 97, 116, 105, 110]⟩ = some (2, 0) := by decide +kernel
theorem works8_is : Ev (fun k => portcullislaw08_works.f k) true := by
  obtain ⟨K1, h1⟩ := (Sma.of [109] (by simp)).is
  obtain ⟨K2, h2⟩ := alike_is (Sma.of [114, 110] (by simp)) (Sma.of [109] (by simp))
  obtain ⟨K3, h3⟩ := alike_is (Sma.of [97] (by simp)) (Sma.of [98] (by simp))
  obtain ⟨K4, h4⟩ := (Sma.of [112, 208, 176, 121, 112, 97, 49] (by simp)).is
  have l1 := level_is [97, 98, 208, 176] (by simp)
  have l2 := level_is [97, 98, 99] (by simp)
  refine ⟨K1 + K2 + K3 + K4, fun k hk => ?_⟩
  have e1 := h1 k (by omega)
  have e2 := h2 k (by omega)
  have e3 := h3 k (by omega)
  have e4 := h4 k (by omega)
  simp only at e1 e2 e3 e4 ⊢
  rw [works_a] at e1
  rw [decide_eq_true (by rw [works_a, works_b])] at e2
  rw [decide_eq_false works_c] at e3
  rw [works_d] at e4
  rw [works_e] at l1
  rw [works_f] at l2
  unfold portcullislaw08_works.f
  show (skel_Of.f _).bind _ = _
  rw [works_of, Option.bind_some]
  have e1' : skel_Skeleton.f k ⟨#[109]⟩ = some (mkB [114, 110]) := e1
  have e2' : skel_Alike.f k ⟨#[114, 110]⟩ ⟨#[109]⟩ = some true := e2
  have e3' : skel_Alike.f k ⟨#[97]⟩ ⟨#[98]⟩ = some false := e3
  have e4' : skel_Skeleton.f k ⟨#[112, 208, 176, 121, 112, 97, 49]⟩ = some (mkB [112, 97, 121, 112, 97, 108]) := e4
  have l1' : skel_Level.f ⟨#[97, 98, 208, 176]⟩ = some 5 := l1
  have l2' : skel_Level.f ⟨#[97, 98, 99]⟩ = some 1 := l2
  rw [e1', Option.bind_some, if_pos (by rw [mkB_list]), e2', Option.bind_some, if_pos rfl, e3', Option.bind_some, if_neg (by decide), e4', Option.bind_some, if_pos (by rw [mkB_list]), l1', Option.bind_some, if_pos rfl, l2', Option.bind_some, if_pos rfl]
  decide +kernel
end Go.Proofs.YtncbbgmhmofhnaaDoor.Pr
end

section
namespace Go.Proofs.YtncbbgmhmofhnaaDoor.Pure
open Go.RowKit Go.Proofs.YtncbbgmhmofhnaaDoor.Pr Go.Proofs.YtncbbgmhmofhnaaDoorW.PrintWords Go.Proofs.YtncbbgmhmofhnaaDoorW.PrintLast Go.Proofs.YtncbbgmhmofhnaaDoorW.PrintMore
set_option linter.unusedVariables false
set_option linter.unusedSimpArgs false

theorem tells_works (s t : ByteArray) (x : Int) : Pr.Ev (fun k => portcullislaw08_SkelTells.j0 k s t x true) true := by
  refine Pr.Ev.step (fun k => ?_) works8_is
  rw [portcullislaw08_SkelTells.j0, if_pos rfl]
  cases portcullislaw08_works.f k <;> rfl
theorem toList_inj {a b : ByteArray} : a.toList = b.toList ↔ a = b := by
  constructor
  · intro h
    rw [Lib.toList_data, Lib.toList_data] at h
    rw [← mkB_data a, ← mkB_data b, h]
  · intro h; rw [h]
def fndF (x : ByteArray) : Nat → Int
  | 0 => -1
  | i + 1 => if nameT.getD i ByteArray.empty = x then (i : Int) else fndF x i
theorem fnd_no (x : ByteArray) (h : x ∉ nameT) : ∀ i, i ≤ 12 → fndF x i = -1
  | 0, _ => rfl
  | i + 1, hi => by
    have hl : nameT.length = 12 := rfl
    rw [fndF, if_neg, fnd_no x h i (by omega)]
    intro he
    apply h
    rw [← he, List.getD_eq_getElem?_getD, List.getElem?_eq_getElem (by omega)]
    exact List.getElem_mem _
theorem idx_no (x : ByteArray) : ∀ (zs : List ByteArray) (i : Nat), x ∉ zs → Lib.idxFromS zs x i = -1
  | [], _, _ => rfl
  | z :: zs, i, h => by
    rw [Lib.idxFromS, if_neg (fun e => h (by rw [e]; exact List.mem_cons_self)), idx_no x zs (i + 1) (fun e => h (List.mem_cons_of_mem _ e))]
theorem fnd_all : (nameT.all fun x => fndF x 12 == Lib.idxOfS nameT x) = true := by decide +kernel
theorem fnd_is (x : ByteArray) : fndF x 12 = Lib.idxOfS nameT x := by
  by_cases h : x ∈ nameT
  · exact eq_of_beq (List.all_eq_true.1 fnd_all x h)
  · rw [fnd_no x h 12 (by omega)]
    exact (idx_no x nameT 0 h).symm
theorem tells_l1 (x1 : ByteArray) (x2 : Int) (h2 : 0 ≤ x2 ∧ x2 ≤ 255) (n e : Int) (hn : skel_Of.f x1 = some (n, e)) : ∀ d i : Nat, i + d = 12 →
    Pr.Ev (fun k => portcullislaw08_SkelTells.l1 k x1 x2 nameT (nameT.getD x2.toNat ⟨#[]⟩) n e (fndF x1 i) (i : Int)) true
  | 0, i, hd => by
    obtain rfl : i = 12 := by omega
    have hw := works8_is
    have hlt := idxS_lt x1
    rw [fnd_is x1]
    have hn' := Option.some.inj hn
    generalize Lib.idxOfS nameT x1 = I at hlt hn' ⊢
    have hN : skel_Name.f x2 = some (nameT.getD x2.toNat ⟨#[]⟩) := by unfold skel_Name.f; rw [if_pos h2]
    refine Pr.Ev.step (fun k => ?_) hw
    have hl : (nameT.length : Int) = 12 := rfl
    rw [portcullislaw08_SkelTells.l1, if_neg (by rw [hl]; decide), hN, Option.bind_some, if_pos rfl]
    by_cases h0 : 0 ≤ I
    · rw [if_pos h0] at hn'
      obtain ⟨rfl, rfl⟩ := Prod.mk.inj hn'
      have hwr : wrap64 I = I := IntWalk.wrap64_in _ (by omega)
      rw [if_pos (by rw [decide_eq_true (show I ≥ 0 from h0)]; rfl), if_neg (by omega), if_pos (show I ≥ 0 from h0), if_pos hwr]
      cases portcullislaw08_works.f k <;> rfl
    · rw [if_neg h0] at hn'
      obtain ⟨rfl, rfl⟩ := Prod.mk.inj hn'
      rw [if_pos (by rw [decide_eq_false (show ¬ I ≥ 0 from h0)]; rfl), if_pos (by omega), if_pos rfl, if_pos rfl]
      cases portcullislaw08_works.f k <;> rfl
  | d + 1, i, hd => by
    have ih := tells_l1 x1 x2 h2 n e hn d (i + 1) (by omega)
    have hl : nameT.length = 12 := rfl
    have hw : wrap64 ((i : Int) + 1) = ((i + 1 : Nat) : Int) := w64n i (by omega)
    have hrd : rdOf ByteArray.empty nameT (i : Int) = nameT.getD i ByteArray.empty := by simp [rdOf]
    refine Pr.Ev.step (fun k => ?_) ih
    rw [portcullislaw08_SkelTells.l1, if_pos (by rw [hl]; omega), if_pos (Int.natCast_nonneg _), hrd, hw, fndF]
    by_cases h : nameT.getD i ByteArray.empty = x1
    · rw [if_pos (toList_inj.2 h), if_pos h]
    · rw [if_neg (fun h' => h (toList_inj.1 h')), if_neg h]
theorem tells_l0 (x1 : ByteArray) (x2 : Int) (h2 : 0 ≤ x2 ∧ x2 ≤ 255) (l : List Int) (hl : l.length ≤ 1000) : ∀ rest pre : List Int, l = pre ++ rest →
    Pr.Ev (fun k => portcullislaw08_SkelTells.l0 k x1 x2 l l (pre.length : Int)) true
  | [], pre, h => by
    have e : l = pre := by rw [h]; simp
    obtain ⟨n, er, hn⟩ : ∃ n er, skel_Of.f x1 = some (n, er) := ⟨_, _, rfl⟩
    have hj3 : Pr.Ev (fun k => portcullislaw08_SkelTells.j3 k x1 x2 nameT (nameT.getD x2.toNat ⟨#[]⟩)) true := by
      refine Pr.Ev.step (fun k => ?_) (tells_l1 x1 x2 h2 n er hn 12 0 rfl)
      rw [portcullislaw08_SkelTells.j3, hn, Option.bind_some]
      rfl
    refine Pr.Ev.step (fun k => ?_) hj3
    have hN : portcullisref08_Names.f = some nameT := rfl
    have hl : (nameT.length : Int) = 12 := rfl
    have hw : wrap64 x2 = x2 := IntWalk.wrap64_in _ (by omega)
    rw [portcullislaw08_SkelTells.l0, if_neg (by rw [e]; omega), hN, Option.bind_some, hw, hl]
    by_cases hx : x2 < 12
    · rw [if_pos hx, if_pos h2.1, if_pos hx]
      have : rdOf ByteArray.empty nameT x2 = nameT.getD x2.toNat ⟨#[]⟩ := by unfold rdOf; rfl
      rw [this]
    · rw [if_neg hx]
      have : nameT.getD x2.toNat ⟨#[]⟩ = ⟨#[]⟩ := by
        rw [List.getD_eq_getElem?_getD, List.getElem?_eq_none (by show 12 ≤ x2.toNat; omega)]
        rfl
      rw [this]
  | y :: rest, pre, h => by
    have hlen : l.length = pre.length + (rest.length + 1) := by rw [h]; simp
    have hw : wrap64 ((pre.length : Int) + 1) = (((pre ++ [y]).length : Nat) : Int) := by rw [w64n _ (by omega)]; simp
    have ih := tells_l0 x1 x2 h2 l hl rest (pre ++ [y]) (by rw [h]; simp)
    refine Pr.Ev.step (fun k => ?_) ih
    rw [portcullislaw08_SkelTells.l0, if_pos (by omega), if_pos (by omega), if_pos (by omega), if_pos rfl, hw]
theorem tells_main (s t : List UInt8) (x2 : Int) (h2 : 0 ≤ x2 ∧ x2 ≤ 255) (hs : s.length ≤ 600) (ht : t.length ≤ 600) : Pr.Ev (fun k => portcullislaw08_SkelTells.j0 k (mkB s) (mkB t) x2 false) true := by
  obtain ⟨K1, h1⟩ := (Sma.of s (by omega)).ref
  obtain ⟨K2, h2'⟩ := (Sma.of t (by omega)).ref
  obtain ⟨K3, h3⟩ := refScripts_is s (by omega)
  obtain ⟨K4, h4⟩ := (Sma.of s (by omega)).is
  obtain ⟨K5, h5⟩ := alike_is (Sma.of s (by omega)) (Sma.of t (by omega))
  obtain ⟨K6, h6⟩ := refLevel_is s (by omega)
  have hsl : (scrB s).length ≤ 1000 := by
    have := setF_len 16 0 (mskB s)
    unfold scrB
    omega
  have hj1 : Pr.Ev (fun k => portcullislaw08_SkelTells.j1 k (mkB t) x2 (scrB s) (scrB s) false) true := by
    refine Pr.Ev.step (fun k => ?_) (tells_l0 (mkB t) x2 h2 (scrB s) hsl (scrB s) [] rfl)
    rw [portcullislaw08_SkelTells.j1, if_neg (by decide)]
    rfl
  refine Pr.Ev.stepG (K1 + K2 + K3 + K4 + K5 + K6) (fun k hk => ?_) hj1
  have e1 := h1 k (by omega)
  have e2 := h2' k (by omega)
  have e3 := h3 k (by omega)
  have e4 := h4 k (by omega)
  have e5 := h5 k (by omega)
  have e6 := h6 k (by omega)
  simp only at e1 e2 e3 e4 e5 e6
  have hb : ((decide (skB s = skB t)) != ((mkB (skB s)).toList == (mkB (skB t)).toList)) = false := by
    rw [mkB_list, mkB_list]
    by_cases h : skB s = skB t
    · rw [h]; simp
    · rw [decide_eq_false h]; simpa using h
  rw [portcullislaw08_SkelTells.j0, if_neg (by decide), e1, Option.bind_some, e2, Option.bind_some, scripts_is s (by omega), Option.bind_some, e3, Option.bind_some, e4, Option.bind_some, if_pos rfl, e5, Option.bind_some, hb, if_neg (by decide), if_pos rfl, level_is s (by omega), Option.bind_some, e6, Option.bind_some]
  rw [show (lvlB s != lvlB s) = false by simp]
theorem SkelTells : portcullislaw08_SkelTells.Pure := by
  intro s t x hs ht hx
  have hx2 : 0 ≤ x ∧ x ≤ 255 := by
    have := hx
    have m1 : IntKind.u8.min = 0 := rfl
    have m2 : IntKind.u8.max = 255 := rfl
    simp [Lit.wf, m1, m2] at this
    omega
  have key : Pr.Ev (fun k => portcullislaw08_SkelTells.f k s t x) true := by
    have zs := mkB_size s.data.toList
    have zt := mkB_size t.data.toList
    rw [mkB_data] at zs zt
    by_cases c1 : (s.size : Int) > 600
    · refine Pr.Ev.of_eq (fun k => ?_) (tells_works s t x)
      unfold portcullislaw08_SkelTells.f
      rw [if_pos c1]
    · by_cases c2 : (t.size : Int) > 600
      · refine Pr.Ev.of_eq (fun k => ?_) (tells_works s t x)
        unfold portcullislaw08_SkelTells.f
        rw [if_neg c1, decide_eq_true c2]
      · have := tells_main s.data.toList t.data.toList x hx2 (by omega) (by omega)
        rw [mkB_data, mkB_data] at this
        refine Pr.Ev.of_eq (fun k => ?_) this
        unfold portcullislaw08_SkelTells.f
        rw [if_neg c1, decide_eq_false c2]
  exact key.ex
end Go.Proofs.YtncbbgmhmofhnaaDoor.Pure
end
