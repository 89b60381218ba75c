import Derived.Test.YtncbbgmhmofhnaaDoorZAB
import Derived.Test.YtncbbgmhmofhnaaDoorZAD
import Derived.Test.YtncbbgmhmofhnaaDoorZAE
import Derived.Lib.ConvBytes
import Derived.IntWalk
import Derived.Lib.Hide
import Derived.Test.YtncbbgmhmofhnaaDoorZAC
import Derived.Shelf.RegionOpen
section
namespace Go.Proofs.YtncbbgmhmofhnaaDoor.Pr
open Go.RowKit Go.Proofs.YtncbbgmhmofhnaaDoorW.PrintWords Go.Proofs.YtncbbgmhmofhnaaDoorW.PrintLast Go.Proofs.YtncbbgmhmofhnaaDoorW.PrintMore
attribute [local go_sem] max2_int min2_int max_two min_two max_three min_three max_four min_four Instr.field asAgg   -- for this text's walks alone
set_option linter.unusedVariables false
set_option linter.unusedSimpArgs false

def portcullislaw08_works.f (k : Nat)  : Option (Bool) := (skel_Of.f (⟨#[76, 97, 116, 105, 110]⟩ : ByteArray)).bind fun bt187 => ((skel_Skeleton.f k (⟨#[109]⟩ : ByteArray)).bind fun t189 => (if t189.toList = ([114, 110] : List UInt8) then ((skel_Alike.f k (⟨#[114, 110]⟩ : ByteArray) (⟨#[109]⟩ : ByteArray)).bind fun t190 => (if t190 = true then ((skel_Alike.f k (⟨#[97]⟩ : ByteArray) (⟨#[98]⟩ : ByteArray)).bind fun t191 => (if t191 = true then (some false) else ((skel_Skeleton.f k (⟨#[112, 208, 176, 121, 112, 97, 49]⟩ : ByteArray)).bind fun t192 => (if t192.toList = ([112, 97, 121, 112, 97, 108] : List UInt8) then ((skel_Level.f (⟨#[97, 98, 208, 176]⟩ : ByteArray)).bind fun t193 => (if t193 = 5 then ((skel_Level.f (⟨#[97, 98, 99]⟩ : ByteArray)).bind fun t194 => (if t194 = 1 then (if bt187.1 = 2 then (if bt187.2 = 0 then ((skel_Name.f 10).bind fun t195 => (some (t195.toList == ([72, 97, 110] : List UInt8)))) else (some false)) else (some false)) else (some false))) else (some false))) else (some false))))) else (some false))) else (some false)))
set_option maxHeartbeats 8000000 in
set_option maxRecDepth 100000 in
theorem portcullislaw08_works.calls (k : Nat)  (r : Bool) (w : World) (h : portcullislaw08_works.f k  = some r) (hG : WG w) :
  Calls Tryd.prog 8 #[] w fun e w' => e = .returned (.bool r) ∧ Below w.heap.size w w' := by
 have HG := Aside0.mk hG
 clear hG
 have HB := Aside0.mk (Below.refl w.heap.size w)
 have H : ((skel_Of.f (⟨#[76, 97, 116, 105, 110]⟩ : ByteArray)).bind fun bt187 => ((skel_Skeleton.f k (⟨#[109]⟩ : ByteArray)).bind fun t189 => (if t189.toList = ([114, 110] : List UInt8) then ((skel_Alike.f k (⟨#[114, 110]⟩ : ByteArray) (⟨#[109]⟩ : ByteArray)).bind fun t190 => (if t190 = true then ((skel_Alike.f k (⟨#[97]⟩ : ByteArray) (⟨#[98]⟩ : ByteArray)).bind fun t191 => (if t191 = true then (some false) else ((skel_Skeleton.f k (⟨#[112, 208, 176, 121, 112, 97, 49]⟩ : ByteArray)).bind fun t192 => (if t192.toList = ([112, 97, 121, 112, 97, 108] : List UInt8) then ((skel_Level.f (⟨#[97, 98, 208, 176]⟩ : ByteArray)).bind fun t193 => (if t193 = 5 then ((skel_Level.f (⟨#[97, 98, 99]⟩ : ByteArray)).bind fun t194 => (if t194 = 1 then (if bt187.1 = 2 then (if bt187.2 = 0 then ((skel_Name.f 10).bind fun t195 => (some (t195.toList == ([72, 97, 110] : List UInt8)))) else (some false)) else (some false)) else (some false))) else (some false))) else (some false))))) else (some false))) else (some false)))) = some r := h
 clear h
 replace H := Option.bind_eq_some_iff.mp H
 obtain ⟨⟨t187, t188⟩, A10, H⟩ := H
 replace H : ((skel_Skeleton.f k (⟨#[109]⟩ : ByteArray)).bind fun t189 => (if t189.toList = ([114, 110] : List UInt8) then ((skel_Alike.f k (⟨#[114, 110]⟩ : ByteArray) (⟨#[109]⟩ : ByteArray)).bind fun t190 => (if t190 = true then ((skel_Alike.f k (⟨#[97]⟩ : ByteArray) (⟨#[98]⟩ : ByteArray)).bind fun t191 => (if t191 = true then (some false) else ((skel_Skeleton.f k (⟨#[112, 208, 176, 121, 112, 97, 49]⟩ : ByteArray)).bind fun t192 => (if t192.toList = ([112, 97, 121, 112, 97, 108] : List UInt8) then ((skel_Level.f (⟨#[97, 98, 208, 176]⟩ : ByteArray)).bind fun t193 => (if t193 = 5 then ((skel_Level.f (⟨#[97, 98, 99]⟩ : ByteArray)).bind fun t194 => (if t194 = 1 then (if t187 = 2 then (if t188 = 0 then ((skel_Name.f 10).bind fun t195 => (some (t195.toList == ([72, 97, 110] : List UInt8)))) else (some false)) else (some false)) else (some false))) else (some false))) else (some false))))) else (some false))) else (some false))) = some r := H
 have A1 := Aside0.mk A10
 clear A10
 replace H := Option.bind_eq_some_iff.mp H
 obtain ⟨t189, A20, H⟩ := H
 replace H : (if t189.toList = ([114, 110] : List UInt8) then ((skel_Alike.f k (⟨#[114, 110]⟩ : ByteArray) (⟨#[109]⟩ : ByteArray)).bind fun t190 => (if t190 = true then ((skel_Alike.f k (⟨#[97]⟩ : ByteArray) (⟨#[98]⟩ : ByteArray)).bind fun t191 => (if t191 = true then (some false) else ((skel_Skeleton.f k (⟨#[112, 208, 176, 121, 112, 97, 49]⟩ : ByteArray)).bind fun t192 => (if t192.toList = ([112, 97, 121, 112, 97, 108] : List UInt8) then ((skel_Level.f (⟨#[97, 98, 208, 176]⟩ : ByteArray)).bind fun t193 => (if t193 = 5 then ((skel_Level.f (⟨#[97, 98, 99]⟩ : ByteArray)).bind fun t194 => (if t194 = 1 then (if t187 = 2 then (if t188 = 0 then ((skel_Name.f 10).bind fun t195 => (some (t195.toList == ([72, 97, 110] : List UInt8)))) else (some false)) else (some false)) else (some false))) else (some false))) else (some false))))) else (some false))) else (some false)) = some r := H
 have A2 := Aside0.mk A20
 clear A20
 by_cases c3 : t189.toList = ([114, 110] : List UInt8)
 ·rw [if_pos c3] at H
  have c3b0 : (t189.toList == ([114, 110] : List UInt8)) = true := beq_iff_eq.mpr c3
  have c3b1 : (t189.toList != ([114, 110] : List UInt8)) = false := bne_eq_false_iff_eq.mpr c3
  clear c3
  replace H := Option.bind_eq_some_iff.mp H
  obtain ⟨t190, A40, H⟩ := H
  replace H : (if t190 = true then ((skel_Alike.f k (⟨#[97]⟩ : ByteArray) (⟨#[98]⟩ : ByteArray)).bind fun t191 => (if t191 = true then (some false) else ((skel_Skeleton.f k (⟨#[112, 208, 176, 121, 112, 97, 49]⟩ : ByteArray)).bind fun t192 => (if t192.toList = ([112, 97, 121, 112, 97, 108] : List UInt8) then ((skel_Level.f (⟨#[97, 98, 208, 176]⟩ : ByteArray)).bind fun t193 => (if t193 = 5 then ((skel_Level.f (⟨#[97, 98, 99]⟩ : ByteArray)).bind fun t194 => (if t194 = 1 then (if t187 = 2 then (if t188 = 0 then ((skel_Name.f 10).bind fun t195 => (some (t195.toList == ([72, 97, 110] : List UInt8)))) else (some false)) else (some false)) else (some false))) else (some false))) else (some false))))) else (some false)) = some r := H
  have A4 := Aside0.mk A40
  clear A40
  by_cases c5 : t190 = true
  ·subst c5
   have H1 : ((skel_Alike.f k (⟨#[97]⟩ : ByteArray) (⟨#[98]⟩ : ByteArray)).bind fun t191 => (if t191 = true then (some false) else ((skel_Skeleton.f k (⟨#[112, 208, 176, 121, 112, 97, 49]⟩ : ByteArray)).bind fun t192 => (if t192.toList = ([112, 97, 121, 112, 97, 108] : List UInt8) then ((skel_Level.f (⟨#[97, 98, 208, 176]⟩ : ByteArray)).bind fun t193 => (if t193 = 5 then ((skel_Level.f (⟨#[97, 98, 99]⟩ : ByteArray)).bind fun t194 => (if t194 = 1 then (if t187 = 2 then (if t188 = 0 then ((skel_Name.f 10).bind fun t195 => (some (t195.toList == ([72, 97, 110] : List UInt8)))) else (some false)) else (some false)) else (some false))) else (some false))) else (some false))))) = some r := by rw [if_pos rfl] at H; exact H
   clear H
   have H := H1
   clear H1
   replace H := Option.bind_eq_some_iff.mp H
   obtain ⟨t191, A60, H⟩ := H
   replace H : (if t191 = true then (some false) else ((skel_Skeleton.f k (⟨#[112, 208, 176, 121, 112, 97, 49]⟩ : ByteArray)).bind fun t192 => (if t192.toList = ([112, 97, 121, 112, 97, 108] : List UInt8) then ((skel_Level.f (⟨#[97, 98, 208, 176]⟩ : ByteArray)).bind fun t193 => (if t193 = 5 then ((skel_Level.f (⟨#[97, 98, 99]⟩ : ByteArray)).bind fun t194 => (if t194 = 1 then (if t187 = 2 then (if t188 = 0 then ((skel_Name.f 10).bind fun t195 => (some (t195.toList == ([72, 97, 110] : List UInt8)))) else (some false)) else (some false)) else (some false))) else (some false))) else (some false)))) = some r := H
   have A6 := Aside0.mk A60
   clear A60
   by_cases c7 : t191 = true
   ·subst c7
    have H1 : (some false) = some r := by rw [if_pos rfl] at H; exact H
    clear H
    have H := H1
    clear H1
    obtain rfl := Option.some.inj H
    go_enter Tryd.func8, Tryd.ntmps8
    go_wp2_with (first | ((with_reducible refine gate_callee (f := 18) rfl ?_); refine goesL_ (some 4) rfl rfl Tryd.func18 (by kernel_rfl) rfl #[.string (⟨#[76, 97, 116, 105, 110]⟩ : ByteArray)] rfl (by (try simp only [List.map_toArray, List.map_cons, List.map_nil]); first | done | rfl | (simp only [List.length_drop, List.length_take]; rfl)) ?_; (with_reducible refine (skel_Of.calls (⟨#[76, 97, 116, 105, 110]⟩ : ByteArray) t187 t188 _ A1.out).mono ?_); rintro e w8 ⟨rfl, hb⟩; refine ⟨_, rfl, ?_⟩; have n0_ := Aside0.mk (below_step (by repeat (first | (with_reducible first | exact HB.out | apply below_alloc | apply pw_below_drewN | apply below_drew1) | exact HB.out)) hb); clear HB; have HB := n0_; clear n0_; (try clear hb); (try clear hb2); (try clear hk); (try clear hi)) | ((with_reducible refine gate_callee (f := 9) rfl ?_); refine goesL_ (some 7) rfl rfl Tryd.func9 (by kernel_rfl) rfl #[.string (⟨#[109]⟩ : ByteArray)] rfl (by (try simp only [List.map_toArray, List.map_cons, List.map_nil]); first | done | rfl | (simp only [List.length_drop, List.length_take]; rfl)) ?_; (with_reducible refine (skel_Skeleton.calls k (⟨#[109]⟩ : ByteArray) t189 _ A2.out (WG.keep HG.out (by repeat (first | (with_reducible first | exact HB.out | apply below_alloc | apply pw_below_drewN | apply below_drew1) | exact HB.out)))).mono ?_); rintro e w9 ⟨rfl, hb⟩; refine ⟨_, rfl, ?_⟩; have n0_ := Aside0.mk (below_step (by repeat (first | (with_reducible first | exact HB.out | apply below_alloc | apply pw_below_drewN | apply below_drew1) | exact HB.out)) hb); clear HB; have HB := n0_; clear n0_; (try clear hb); (try clear hb2); (try clear hk); (try clear hi)) | (go_at_call 10; (with_reducible refine (skel_Alike.calls k (⟨#[114, 110]⟩ : ByteArray) (⟨#[109]⟩ : ByteArray) true _ A4.out (WG.keep HG.out (by repeat (first | (with_reducible first | exact HB.out | apply below_alloc | apply pw_below_drewN | apply below_drew1) | exact HB.out)))).mono ?_); rintro e w10 ⟨rfl, hb⟩; have n0_ := Aside0.mk (below_step (by repeat (first | (with_reducible first | exact HB.out | apply below_alloc | apply pw_below_drewN | apply below_drew1) | exact HB.out)) hb); clear HB; have HB := n0_; clear n0_; (try clear hb); (try clear hb2); (try clear hk); (try clear hi)) | (go_at_call 10; (with_reducible refine (skel_Alike.calls k (⟨#[97]⟩ : ByteArray) (⟨#[98]⟩ : ByteArray) true _ A6.out (WG.keep HG.out (by repeat (first | (with_reducible first | exact HB.out | apply below_alloc | apply pw_below_drewN | apply below_drew1) | exact HB.out)))).mono ?_); rintro e w11 ⟨rfl, hb⟩; have n0_ := Aside0.mk (below_step (by repeat (first | (with_reducible first | exact HB.out | apply below_alloc | apply pw_below_drewN | apply below_drew1) | exact HB.out)) hb); clear HB; have HB := n0_; clear n0_; (try clear hb); (try clear hb2); (try clear hk); (try clear hi)))
    go_ret
    exact ⟨by first | rfl | (simp [errW_none, errW_some] <;> rfl) | (simp [*, errW_none, errW_some] <;> rfl), by repeat (first | (with_reducible first | exact HB.out | apply below_alloc | apply pw_below_drewN | apply below_drew1) | exact HB.out)⟩
   ·replace c7 := Bool.eq_false_iff.mpr c7
    subst c7
    have H1 : ((skel_Skeleton.f k (⟨#[112, 208, 176, 121, 112, 97, 49]⟩ : ByteArray)).bind fun t192 => (if t192.toList = ([112, 97, 121, 112, 97, 108] : List UInt8) then ((skel_Level.f (⟨#[97, 98, 208, 176]⟩ : ByteArray)).bind fun t193 => (if t193 = 5 then ((skel_Level.f (⟨#[97, 98, 99]⟩ : ByteArray)).bind fun t194 => (if t194 = 1 then (if t187 = 2 then (if t188 = 0 then ((skel_Name.f 10).bind fun t195 => (some (t195.toList == ([72, 97, 110] : List UInt8)))) else (some false)) else (some false)) else (some false))) else (some false))) else (some false))) = some r := by rw [if_neg (show ¬ (false = true) by decide)] at H; exact H
    clear H
    have H := H1
    clear H1
    replace H := Option.bind_eq_some_iff.mp H
    obtain ⟨t192, A120, H⟩ := H
    replace H : (if t192.toList = ([112, 97, 121, 112, 97, 108] : List UInt8) then ((skel_Level.f (⟨#[97, 98, 208, 176]⟩ : ByteArray)).bind fun t193 => (if t193 = 5 then ((skel_Level.f (⟨#[97, 98, 99]⟩ : ByteArray)).bind fun t194 => (if t194 = 1 then (if t187 = 2 then (if t188 = 0 then ((skel_Name.f 10).bind fun t195 => (some (t195.toList == ([72, 97, 110] : List UInt8)))) else (some false)) else (some false)) else (some false))) else (some false))) else (some false)) = some r := H
    have A12 := Aside0.mk A120
    clear A120
    by_cases c13 : t192.toList = ([112, 97, 121, 112, 97, 108] : List UInt8)
    ·rw [if_pos c13] at H
     have c13b0 : (t192.toList == ([112, 97, 121, 112, 97, 108] : List UInt8)) = true := beq_iff_eq.mpr c13
     have c13b1 : (t192.toList != ([112, 97, 121, 112, 97, 108] : List UInt8)) = false := bne_eq_false_iff_eq.mpr c13
     clear c13
     replace H := Option.bind_eq_some_iff.mp H
     obtain ⟨t193, A140, H⟩ := H
     replace H : (if t193 = 5 then ((skel_Level.f (⟨#[97, 98, 99]⟩ : ByteArray)).bind fun t194 => (if t194 = 1 then (if t187 = 2 then (if t188 = 0 then ((skel_Name.f 10).bind fun t195 => (some (t195.toList == ([72, 97, 110] : List UInt8)))) else (some false)) else (some false)) else (some false))) else (some false)) = some r := H
     have A14 := Aside0.mk A140
     clear A140
     by_cases c15 : t193 = 5
     ·rw [if_pos c15] at H
      have c15b0 : (t193 == 5) = true := beq_iff_eq.mpr c15
      have c15b1 : (t193 != 5) = false := bne_eq_false_iff_eq.mpr c15
      clear c15
      replace H := Option.bind_eq_some_iff.mp H
      obtain ⟨t194, A160, H⟩ := H
      replace H : (if t194 = 1 then (if t187 = 2 then (if t188 = 0 then ((skel_Name.f 10).bind fun t195 => (some (t195.toList == ([72, 97, 110] : List UInt8)))) else (some false)) else (some false)) else (some false)) = some r := H
      have A16 := Aside0.mk A160
      clear A160
      by_cases c17 : t194 = 1
      ·rw [if_pos c17] at H
       have c17b0 : (t194 == 1) = true := beq_iff_eq.mpr c17
       have c17b1 : (t194 != 1) = false := bne_eq_false_iff_eq.mpr c17
       clear c17
       by_cases c18 : t187 = 2
       ·rw [if_pos c18] at H
        have c18b0 : (t187 == 2) = true := beq_iff_eq.mpr c18
        have c18b1 : (t187 != 2) = false := bne_eq_false_iff_eq.mpr c18
        clear c18
        by_cases c19 : t188 = 0
        ·rw [if_pos c19] at H
         have c19b0 : (t188 == 0) = true := beq_iff_eq.mpr c19
         have c19b1 : (t188 != 0) = false := bne_eq_false_iff_eq.mpr c19
         clear c19
         replace H := Option.bind_eq_some_iff.mp H
         obtain ⟨t195, A200, H⟩ := H
         replace H : (some (t195.toList == ([72, 97, 110] : List UInt8))) = some r := H
         have A20 := Aside0.mk A200
         clear A200
         obtain rfl := Option.some.inj H
         go_enter Tryd.func8, Tryd.ntmps8
         go_wp2_with (first | ((with_reducible refine gate_callee (f := 18) rfl ?_); refine goesL_ (some 4) rfl rfl Tryd.func18 (by kernel_rfl) rfl #[.string (⟨#[76, 97, 116, 105, 110]⟩ : ByteArray)] rfl (by (try simp only [List.map_toArray, List.map_cons, List.map_nil]); first | done | rfl | (simp only [List.length_drop, List.length_take]; rfl)) ?_; (with_reducible refine (skel_Of.calls (⟨#[76, 97, 116, 105, 110]⟩ : ByteArray) t187 t188 _ A1.out).mono ?_); rintro e w21 ⟨rfl, hb⟩; refine ⟨_, rfl, ?_⟩; have n0_ := Aside0.mk (below_step (by repeat (first | (with_reducible first | exact HB.out | apply below_alloc | apply pw_below_drewN | apply below_drew1) | exact HB.out)) hb); clear HB; have HB := n0_; clear n0_; (try clear hb); (try clear hb2); (try clear hk); (try clear hi)) | ((with_reducible refine gate_callee (f := 9) rfl ?_); refine goesL_ (some 7) rfl rfl Tryd.func9 (by kernel_rfl) rfl #[.string (⟨#[109]⟩ : ByteArray)] rfl (by (try simp only [List.map_toArray, List.map_cons, List.map_nil]); first | done | rfl | (simp only [List.length_drop, List.length_take]; rfl)) ?_; (with_reducible refine (skel_Skeleton.calls k (⟨#[109]⟩ : ByteArray) t189 _ A2.out (WG.keep HG.out (by repeat (first | (with_reducible first | exact HB.out | apply below_alloc | apply pw_below_drewN | apply below_drew1) | exact HB.out)))).mono ?_); rintro e w22 ⟨rfl, hb⟩; refine ⟨_, rfl, ?_⟩; have n0_ := Aside0.mk (below_step (by repeat (first | (with_reducible first | exact HB.out | apply below_alloc | apply pw_below_drewN | apply below_drew1) | exact HB.out)) hb); clear HB; have HB := n0_; clear n0_; (try clear hb); (try clear hb2); (try clear hk); (try clear hi)) | (go_at_call 10; (with_reducible refine (skel_Alike.calls k (⟨#[114, 110]⟩ : ByteArray) (⟨#[109]⟩ : ByteArray) true _ A4.out (WG.keep HG.out (by repeat (first | (with_reducible first | exact HB.out | apply below_alloc | apply pw_below_drewN | apply below_drew1) | exact HB.out)))).mono ?_); rintro e w23 ⟨rfl, hb⟩; have n0_ := Aside0.mk (below_step (by repeat (first | (with_reducible first | exact HB.out | apply below_alloc | apply pw_below_drewN | apply below_drew1) | exact HB.out)) hb); clear HB; have HB := n0_; clear n0_; (try clear hb); (try clear hb2); (try clear hk); (try clear hi)) | (go_at_call 10; (with_reducible refine (skel_Alike.calls k (⟨#[97]⟩ : ByteArray) (⟨#[98]⟩ : ByteArray) false _ A6.out (WG.keep HG.out (by repeat (first | (with_reducible first | exact HB.out | apply below_alloc | apply pw_below_drewN | apply below_drew1) | exact HB.out)))).mono ?_); rintro e w24 ⟨rfl, hb⟩; have n0_ := Aside0.mk (below_step (by repeat (first | (with_reducible first | exact HB.out | apply below_alloc | apply pw_below_drewN | apply below_drew1) | exact HB.out)) hb); clear HB; have HB := n0_; clear n0_; (try clear hb); (try clear hb2); (try clear hk); (try clear hi)) | (go_at_call 9; (with_reducible refine (skel_Skeleton.calls k (⟨#[112, 208, 176, 121, 112, 97, 49]⟩ : ByteArray) t192 _ A12.out (WG.keep HG.out (by repeat (first | (with_reducible first | exact HB.out | apply below_alloc | apply pw_below_drewN | apply below_drew1) | exact HB.out)))).mono ?_); rintro e w25 ⟨rfl, hb⟩; have n0_ := Aside0.mk (below_step (by repeat (first | (with_reducible first | exact HB.out | apply below_alloc | apply pw_below_drewN | apply below_drew1) | exact HB.out)) hb); clear HB; have HB := n0_; clear n0_; (try clear hb); (try clear hb2); (try clear hk); (try clear hi)) | (go_at_call 15; (with_reducible refine (skel_Level.calls (⟨#[97, 98, 208, 176]⟩ : ByteArray) t193 _ A14.out (WG.keep HG.out (by repeat (first | (with_reducible first | exact HB.out | apply below_alloc | apply pw_below_drewN | apply below_drew1) | exact HB.out)))).mono ?_); rintro e w26 ⟨rfl, hb⟩; have n0_ := Aside0.mk (below_step (by repeat (first | (with_reducible first | exact HB.out | apply below_alloc | apply pw_below_drewN | apply below_drew1) | exact HB.out)) hb); clear HB; have HB := n0_; clear n0_; (try clear hb); (try clear hb2); (try clear hk); (try clear hi)) | (go_at_call 15; (with_reducible refine (skel_Level.calls (⟨#[97, 98, 99]⟩ : ByteArray) t194 _ A16.out (WG.keep HG.out (by repeat (first | (with_reducible first | exact HB.out | apply below_alloc | apply pw_below_drewN | apply below_drew1) | exact HB.out)))).mono ?_); rintro e w27 ⟨rfl, hb⟩; have n0_ := Aside0.mk (below_step (by repeat (first | (with_reducible first | exact HB.out | apply below_alloc | apply pw_below_drewN | apply below_drew1) | exact HB.out)) hb); clear HB; have HB := n0_; clear n0_; (try clear hb); (try clear hb2); (try clear hk); (try clear hi)) | (go_at_call 19; (with_reducible refine (skel_Name.calls 10 t195 _ A20.out).mono ?_); rintro e w28 ⟨rfl, hb⟩; have n0_ := Aside0.mk (below_step (by repeat (first | (with_reducible first | exact HB.out | apply below_alloc | apply pw_below_drewN | apply below_drew1) | exact HB.out)) hb); clear HB; have HB := n0_; clear n0_; (try clear hb); (try clear hb2); (try clear hk); (try clear hi)))
         go_ret
         exact ⟨by first | rfl | (simp [errW_none, errW_some] <;> rfl) | (simp [*, errW_none, errW_some] <;> rfl), by repeat (first | (with_reducible first | exact HB.out | apply below_alloc | apply pw_below_drewN | apply below_drew1) | exact HB.out)⟩
        ·rw [if_neg c19] at H
         have c19b0 : (t188 == 0) = false := beq_eq_false_iff_ne.mpr c19
         have c19b1 : (t188 != 0) = true := bne_iff_ne.mpr c19
         obtain rfl := Option.some.inj H
         go_enter Tryd.func8, Tryd.ntmps8
         go_wp2_with (first | ((with_reducible refine gate_callee (f := 18) rfl ?_); refine goesL_ (some 4) rfl rfl Tryd.func18 (by kernel_rfl) rfl #[.string (⟨#[76, 97, 116, 105, 110]⟩ : ByteArray)] rfl (by (try simp only [List.map_toArray, List.map_cons, List.map_nil]); first | done | rfl | (simp only [List.length_drop, List.length_take]; rfl)) ?_; (with_reducible refine (skel_Of.calls (⟨#[76, 97, 116, 105, 110]⟩ : ByteArray) t187 t188 _ A1.out).mono ?_); rintro e w29 ⟨rfl, hb⟩; refine ⟨_, rfl, ?_⟩; have n0_ := Aside0.mk (below_step (by repeat (first | (with_reducible first | exact HB.out | apply below_alloc | apply pw_below_drewN | apply below_drew1) | exact HB.out)) hb); clear HB; have HB := n0_; clear n0_; (try clear hb); (try clear hb2); (try clear hk); (try clear hi)) | ((with_reducible refine gate_callee (f := 9) rfl ?_); refine goesL_ (some 7) rfl rfl Tryd.func9 (by kernel_rfl) rfl #[.string (⟨#[109]⟩ : ByteArray)] rfl (by (try simp only [List.map_toArray, List.map_cons, List.map_nil]); first | done | rfl | (simp only [List.length_drop, List.length_take]; rfl)) ?_; (with_reducible refine (skel_Skeleton.calls k (⟨#[109]⟩ : ByteArray) t189 _ A2.out (WG.keep HG.out (by repeat (first | (with_reducible first | exact HB.out | apply below_alloc | apply pw_below_drewN | apply below_drew1) | exact HB.out)))).mono ?_); rintro e w30 ⟨rfl, hb⟩; refine ⟨_, rfl, ?_⟩; have n0_ := Aside0.mk (below_step (by repeat (first | (with_reducible first | exact HB.out | apply below_alloc | apply pw_below_drewN | apply below_drew1) | exact HB.out)) hb); clear HB; have HB := n0_; clear n0_; (try clear hb); (try clear hb2); (try clear hk); (try clear hi)) | (go_at_call 10; (with_reducible refine (skel_Alike.calls k (⟨#[114, 110]⟩ : ByteArray) (⟨#[109]⟩ : ByteArray) true _ A4.out (WG.keep HG.out (by repeat (first | (with_reducible first | exact HB.out | apply below_alloc | apply pw_below_drewN | apply below_drew1) | exact HB.out)))).mono ?_); rintro e w31 ⟨rfl, hb⟩; have n0_ := Aside0.mk (below_step (by repeat (first | (with_reducible first | exact HB.out | apply below_alloc | apply pw_below_drewN | apply below_drew1) | exact HB.out)) hb); clear HB; have HB := n0_; clear n0_; (try clear hb); (try clear hb2); (try clear hk); (try clear hi)) | (go_at_call 10; (with_reducible refine (skel_Alike.calls k (⟨#[97]⟩ : ByteArray) (⟨#[98]⟩ : ByteArray) false _ A6.out (WG.keep HG.out (by repeat (first | (with_reducible first | exact HB.out | apply below_alloc | apply pw_below_drewN | apply below_drew1) | exact HB.out)))).mono ?_); rintro e w32 ⟨rfl, hb⟩; have n0_ := Aside0.mk (below_step (by repeat (first | (with_reducible first | exact HB.out | apply below_alloc | apply pw_below_drewN | apply below_drew1) | exact HB.out)) hb); clear HB; have HB := n0_; clear n0_; (try clear hb); (try clear hb2); (try clear hk); (try clear hi)) | (go_at_call 9; (with_reducible refine (skel_Skeleton.calls k (⟨#[112, 208, 176, 121, 112, 97, 49]⟩ : ByteArray) t192 _ A12.out (WG.keep HG.out (by repeat (first | (with_reducible first | exact HB.out | apply below_alloc | apply pw_below_drewN | apply below_drew1) | exact HB.out)))).mono ?_); rintro e w33 ⟨rfl, hb⟩; have n0_ := Aside0.mk (below_step (by repeat (first | (with_reducible first | exact HB.out | apply below_alloc | apply pw_below_drewN | apply below_drew1) | exact HB.out)) hb); clear HB; have HB := n0_; clear n0_; (try clear hb); (try clear hb2); (try clear hk); (try clear hi)) | (go_at_call 15; (with_reducible refine (skel_Level.calls (⟨#[97, 98, 208, 176]⟩ : ByteArray) t193 _ A14.out (WG.keep HG.out (by repeat (first | (with_reducible first | exact HB.out | apply below_alloc | apply pw_below_drewN | apply below_drew1) | exact HB.out)))).mono ?_); rintro e w34 ⟨rfl, hb⟩; have n0_ := Aside0.mk (below_step (by repeat (first | (with_reducible first | exact HB.out | apply below_alloc | apply pw_below_drewN | apply below_drew1) | exact HB.out)) hb); clear HB; have HB := n0_; clear n0_; (try clear hb); (try clear hb2); (try clear hk); (try clear hi)) | (go_at_call 15; (with_reducible refine (skel_Level.calls (⟨#[97, 98, 99]⟩ : ByteArray) t194 _ A16.out (WG.keep HG.out (by repeat (first | (with_reducible first | exact HB.out | apply below_alloc | apply pw_below_drewN | apply below_drew1) | exact HB.out)))).mono ?_); rintro e w35 ⟨rfl, hb⟩; have n0_ := Aside0.mk (below_step (by repeat (first | (with_reducible first | exact HB.out | apply below_alloc | apply pw_below_drewN | apply below_drew1) | exact HB.out)) hb); clear HB; have HB := n0_; clear n0_; (try clear hb); (try clear hb2); (try clear hk); (try clear hi)))
         go_ret
         exact ⟨by first | rfl | (simp [errW_none, errW_some] <;> rfl) | (simp [*, errW_none, errW_some] <;> rfl), by repeat (first | (with_reducible first | exact HB.out | apply below_alloc | apply pw_below_drewN | apply below_drew1) | exact HB.out)⟩
       ·rw [if_neg c18] at H
        have c18b0 : (t187 == 2) = false := beq_eq_false_iff_ne.mpr c18
        have c18b1 : (t187 != 2) = true := bne_iff_ne.mpr c18
        obtain rfl := Option.some.inj H
        go_enter Tryd.func8, Tryd.ntmps8
        go_wp2_with (first | ((with_reducible refine gate_callee (f := 18) rfl ?_); refine goesL_ (some 4) rfl rfl Tryd.func18 (by kernel_rfl) rfl #[.string (⟨#[76, 97, 116, 105, 110]⟩ : ByteArray)] rfl (by (try simp only [List.map_toArray, List.map_cons, List.map_nil]); first | done | rfl | (simp only [List.length_drop, List.length_take]; rfl)) ?_; (with_reducible refine (skel_Of.calls (⟨#[76, 97, 116, 105, 110]⟩ : ByteArray) t187 t188 _ A1.out).mono ?_); rintro e w36 ⟨rfl, hb⟩; refine ⟨_, rfl, ?_⟩; have n0_ := Aside0.mk (below_step (by repeat (first | (with_reducible first | exact HB.out | apply below_alloc | apply pw_below_drewN | apply below_drew1) | exact HB.out)) hb); clear HB; have HB := n0_; clear n0_; (try clear hb); (try clear hb2); (try clear hk); (try clear hi)) | ((with_reducible refine gate_callee (f := 9) rfl ?_); refine goesL_ (some 7) rfl rfl Tryd.func9 (by kernel_rfl) rfl #[.string (⟨#[109]⟩ : ByteArray)] rfl (by (try simp only [List.map_toArray, List.map_cons, List.map_nil]); first | done | rfl | (simp only [List.length_drop, List.length_take]; rfl)) ?_; (with_reducible refine (skel_Skeleton.calls k (⟨#[109]⟩ : ByteArray) t189 _ A2.out (WG.keep HG.out (by repeat (first | (with_reducible first | exact HB.out | apply below_alloc | apply pw_below_drewN | apply below_drew1) | exact HB.out)))).mono ?_); rintro e w37 ⟨rfl, hb⟩; refine ⟨_, rfl, ?_⟩; have n0_ := Aside0.mk (below_step (by repeat (first | (with_reducible first | exact HB.out | apply below_alloc | apply pw_below_drewN | apply below_drew1) | exact HB.out)) hb); clear HB; have HB := n0_; clear n0_; (try clear hb); (try clear hb2); (try clear hk); (try clear hi)) | (go_at_call 10; (with_reducible refine (skel_Alike.calls k (⟨#[114, 110]⟩ : ByteArray) (⟨#[109]⟩ : ByteArray) true _ A4.out (WG.keep HG.out (by repeat (first | (with_reducible first | exact HB.out | apply below_alloc | apply pw_below_drewN | apply below_drew1) | exact HB.out)))).mono ?_); rintro e w38 ⟨rfl, hb⟩; have n0_ := Aside0.mk (below_step (by repeat (first | (with_reducible first | exact HB.out | apply below_alloc | apply pw_below_drewN | apply below_drew1) | exact HB.out)) hb); clear HB; have HB := n0_; clear n0_; (try clear hb); (try clear hb2); (try clear hk); (try clear hi)) | (go_at_call 10; (with_reducible refine (skel_Alike.calls k (⟨#[97]⟩ : ByteArray) (⟨#[98]⟩ : ByteArray) false _ A6.out (WG.keep HG.out (by repeat (first | (with_reducible first | exact HB.out | apply below_alloc | apply pw_below_drewN | apply below_drew1) | exact HB.out)))).mono ?_); rintro e w39 ⟨rfl, hb⟩; have n0_ := Aside0.mk (below_step (by repeat (first | (with_reducible first | exact HB.out | apply below_alloc | apply pw_below_drewN | apply below_drew1) | exact HB.out)) hb); clear HB; have HB := n0_; clear n0_; (try clear hb); (try clear hb2); (try clear hk); (try clear hi)) | (go_at_call 9; (with_reducible refine (skel_Skeleton.calls k (⟨#[112, 208, 176, 121, 112, 97, 49]⟩ : ByteArray) t192 _ A12.out (WG.keep HG.out (by repeat (first | (with_reducible first | exact HB.out | apply below_alloc | apply pw_below_drewN | apply below_drew1) | exact HB.out)))).mono ?_); rintro e w40 ⟨rfl, hb⟩; have n0_ := Aside0.mk (below_step (by repeat (first | (with_reducible first | exact HB.out | apply below_alloc | apply pw_below_drewN | apply below_drew1) | exact HB.out)) hb); clear HB; have HB := n0_; clear n0_; (try clear hb); (try clear hb2); (try clear hk); (try clear hi)) | (go_at_call 15; (with_reducible refine (skel_Level.calls (⟨#[97, 98, 208, 176]⟩ : ByteArray) t193 _ A14.out (WG.keep HG.out (by repeat (first | (with_reducible first | exact HB.out | apply below_alloc | apply pw_below_drewN | apply below_drew1) | exact HB.out)))).mono ?_); rintro e w41 ⟨rfl, hb⟩; have n0_ := Aside0.mk (below_step (by repeat (first | (with_reducible first | exact HB.out | apply below_alloc | apply pw_below_drewN | apply below_drew1) | exact HB.out)) hb); clear HB; have HB := n0_; clear n0_; (try clear hb); (try clear hb2); (try clear hk); (try clear hi)) | (go_at_call 15; (with_reducible refine (skel_Level.calls (⟨#[97, 98, 99]⟩ : ByteArray) t194 _ A16.out (WG.keep HG.out (by repeat (first | (with_reducible first | exact HB.out | apply below_alloc | apply pw_below_drewN | apply below_drew1) | exact HB.out)))).mono ?_); rintro e w42 ⟨rfl, hb⟩; have n0_ := Aside0.mk (below_step (by repeat (first | (with_reducible first | exact HB.out | apply below_alloc | apply pw_below_drewN | apply below_drew1) | exact HB.out)) hb); clear HB; have HB := n0_; clear n0_; (try clear hb); (try clear hb2); (try clear hk); (try clear hi)))
        go_ret
        exact ⟨by first | rfl | (simp [errW_none, errW_some] <;> rfl) | (simp [*, errW_none, errW_some] <;> rfl), by repeat (first | (with_reducible first | exact HB.out | apply below_alloc | apply pw_below_drewN | apply below_drew1) | exact HB.out)⟩
      ·rw [if_neg c17] at H
       have c17b0 : (t194 == 1) = false := beq_eq_false_iff_ne.mpr c17
       have c17b1 : (t194 != 1) = true := bne_iff_ne.mpr c17
       obtain rfl := Option.some.inj H
       go_enter Tryd.func8, Tryd.ntmps8
       go_wp2_with (first | ((with_reducible refine gate_callee (f := 18) rfl ?_); refine goesL_ (some 4) rfl rfl Tryd.func18 (by kernel_rfl) rfl #[.string (⟨#[76, 97, 116, 105, 110]⟩ : ByteArray)] rfl (by (try simp only [List.map_toArray, List.map_cons, List.map_nil]); first | done | rfl | (simp only [List.length_drop, List.length_take]; rfl)) ?_; (with_reducible refine (skel_Of.calls (⟨#[76, 97, 116, 105, 110]⟩ : ByteArray) t187 t188 _ A1.out).mono ?_); rintro e w43 ⟨rfl, hb⟩; refine ⟨_, rfl, ?_⟩; have n0_ := Aside0.mk (below_step (by repeat (first | (with_reducible first | exact HB.out | apply below_alloc | apply pw_below_drewN | apply below_drew1) | exact HB.out)) hb); clear HB; have HB := n0_; clear n0_; (try clear hb); (try clear hb2); (try clear hk); (try clear hi)) | ((with_reducible refine gate_callee (f := 9) rfl ?_); refine goesL_ (some 7) rfl rfl Tryd.func9 (by kernel_rfl) rfl #[.string (⟨#[109]⟩ : ByteArray)] rfl (by (try simp only [List.map_toArray, List.map_cons, List.map_nil]); first | done | rfl | (simp only [List.length_drop, List.length_take]; rfl)) ?_; (with_reducible refine (skel_Skeleton.calls k (⟨#[109]⟩ : ByteArray) t189 _ A2.out (WG.keep HG.out (by repeat (first | (with_reducible first | exact HB.out | apply below_alloc | apply pw_below_drewN | apply below_drew1) | exact HB.out)))).mono ?_); rintro e w44 ⟨rfl, hb⟩; refine ⟨_, rfl, ?_⟩; have n0_ := Aside0.mk (below_step (by repeat (first | (with_reducible first | exact HB.out | apply below_alloc | apply pw_below_drewN | apply below_drew1) | exact HB.out)) hb); clear HB; have HB := n0_; clear n0_; (try clear hb); (try clear hb2); (try clear hk); (try clear hi)) | (go_at_call 10; (with_reducible refine (skel_Alike.calls k (⟨#[114, 110]⟩ : ByteArray) (⟨#[109]⟩ : ByteArray) true _ A4.out (WG.keep HG.out (by repeat (first | (with_reducible first | exact HB.out | apply below_alloc | apply pw_below_drewN | apply below_drew1) | exact HB.out)))).mono ?_); rintro e w45 ⟨rfl, hb⟩; have n0_ := Aside0.mk (below_step (by repeat (first | (with_reducible first | exact HB.out | apply below_alloc | apply pw_below_drewN | apply below_drew1) | exact HB.out)) hb); clear HB; have HB := n0_; clear n0_; (try clear hb); (try clear hb2); (try clear hk); (try clear hi)) | (go_at_call 10; (with_reducible refine (skel_Alike.calls k (⟨#[97]⟩ : ByteArray) (⟨#[98]⟩ : ByteArray) false _ A6.out (WG.keep HG.out (by repeat (first | (with_reducible first | exact HB.out | apply below_alloc | apply pw_below_drewN | apply below_drew1) | exact HB.out)))).mono ?_); rintro e w46 ⟨rfl, hb⟩; have n0_ := Aside0.mk (below_step (by repeat (first | (with_reducible first | exact HB.out | apply below_alloc | apply pw_below_drewN | apply below_drew1) | exact HB.out)) hb); clear HB; have HB := n0_; clear n0_; (try clear hb); (try clear hb2); (try clear hk); (try clear hi)) | (go_at_call 9; (with_reducible refine (skel_Skeleton.calls k (⟨#[112, 208, 176, 121, 112, 97, 49]⟩ : ByteArray) t192 _ A12.out (WG.keep HG.out (by repeat (first | (with_reducible first | exact HB.out | apply below_alloc | apply pw_below_drewN | apply below_drew1) | exact HB.out)))).mono ?_); rintro e w47 ⟨rfl, hb⟩; have n0_ := Aside0.mk (below_step (by repeat (first | (with_reducible first | exact HB.out | apply below_alloc | apply pw_below_drewN | apply below_drew1) | exact HB.out)) hb); clear HB; have HB := n0_; clear n0_; (try clear hb); (try clear hb2); (try clear hk); (try clear hi)) | (go_at_call 15; (with_reducible refine (skel_Level.calls (⟨#[97, 98, 208, 176]⟩ : ByteArray) t193 _ A14.out (WG.keep HG.out (by repeat (first | (with_reducible first | exact HB.out | apply below_alloc | apply pw_below_drewN | apply below_drew1) | exact HB.out)))).mono ?_); rintro e w48 ⟨rfl, hb⟩; have n0_ := Aside0.mk (below_step (by repeat (first | (with_reducible first | exact HB.out | apply below_alloc | apply pw_below_drewN | apply below_drew1) | exact HB.out)) hb); clear HB; have HB := n0_; clear n0_; (try clear hb); (try clear hb2); (try clear hk); (try clear hi)) | (go_at_call 15; (with_reducible refine (skel_Level.calls (⟨#[97, 98, 99]⟩ : ByteArray) t194 _ A16.out (WG.keep HG.out (by repeat (first | (with_reducible first | exact HB.out | apply below_alloc | apply pw_below_drewN | apply below_drew1) | exact HB.out)))).mono ?_); rintro e w49 ⟨rfl, hb⟩; have n0_ := Aside0.mk (below_step (by repeat (first | (with_reducible first | exact HB.out | apply below_alloc | apply pw_below_drewN | apply below_drew1) | exact HB.out)) hb); clear HB; have HB := n0_; clear n0_; (try clear hb); (try clear hb2); (try clear hk); (try clear hi)))
       go_ret
       exact ⟨by first | rfl | (simp [errW_none, errW_some] <;> rfl) | (simp [*, errW_none, errW_some] <;> rfl), by repeat (first | (with_reducible first | exact HB.out | apply below_alloc | apply pw_below_drewN | apply below_drew1) | exact HB.out)⟩
     ·rw [if_neg c15] at H
      have c15b0 : (t193 == 5) = false := beq_eq_false_iff_ne.mpr c15
      have c15b1 : (t193 != 5) = true := bne_iff_ne.mpr c15
      obtain rfl := Option.some.inj H
      go_enter Tryd.func8, Tryd.ntmps8
      go_wp2_with (first | ((with_reducible refine gate_callee (f := 18) rfl ?_); refine goesL_ (some 4) rfl rfl Tryd.func18 (by kernel_rfl) rfl #[.string (⟨#[76, 97, 116, 105, 110]⟩ : ByteArray)] rfl (by (try simp only [List.map_toArray, List.map_cons, List.map_nil]); first | done | rfl | (simp only [List.length_drop, List.length_take]; rfl)) ?_; (with_reducible refine (skel_Of.calls (⟨#[76, 97, 116, 105, 110]⟩ : ByteArray) t187 t188 _ A1.out).mono ?_); rintro e w50 ⟨rfl, hb⟩; refine ⟨_, rfl, ?_⟩; have n0_ := Aside0.mk (below_step (by repeat (first | (with_reducible first | exact HB.out | apply below_alloc | apply pw_below_drewN | apply below_drew1) | exact HB.out)) hb); clear HB; have HB := n0_; clear n0_; (try clear hb); (try clear hb2); (try clear hk); (try clear hi)) | ((with_reducible refine gate_callee (f := 9) rfl ?_); refine goesL_ (some 7) rfl rfl Tryd.func9 (by kernel_rfl) rfl #[.string (⟨#[109]⟩ : ByteArray)] rfl (by (try simp only [List.map_toArray, List.map_cons, List.map_nil]); first | done | rfl | (simp only [List.length_drop, List.length_take]; rfl)) ?_; (with_reducible refine (skel_Skeleton.calls k (⟨#[109]⟩ : ByteArray) t189 _ A2.out (WG.keep HG.out (by repeat (first | (with_reducible first | exact HB.out | apply below_alloc | apply pw_below_drewN | apply below_drew1) | exact HB.out)))).mono ?_); rintro e w51 ⟨rfl, hb⟩; refine ⟨_, rfl, ?_⟩; have n0_ := Aside0.mk (below_step (by repeat (first | (with_reducible first | exact HB.out | apply below_alloc | apply pw_below_drewN | apply below_drew1) | exact HB.out)) hb); clear HB; have HB := n0_; clear n0_; (try clear hb); (try clear hb2); (try clear hk); (try clear hi)) | (go_at_call 10; (with_reducible refine (skel_Alike.calls k (⟨#[114, 110]⟩ : ByteArray) (⟨#[109]⟩ : ByteArray) true _ A4.out (WG.keep HG.out (by repeat (first | (with_reducible first | exact HB.out | apply below_alloc | apply pw_below_drewN | apply below_drew1) | exact HB.out)))).mono ?_); rintro e w52 ⟨rfl, hb⟩; have n0_ := Aside0.mk (below_step (by repeat (first | (with_reducible first | exact HB.out | apply below_alloc | apply pw_below_drewN | apply below_drew1) | exact HB.out)) hb); clear HB; have HB := n0_; clear n0_; (try clear hb); (try clear hb2); (try clear hk); (try clear hi)) | (go_at_call 10; (with_reducible refine (skel_Alike.calls k (⟨#[97]⟩ : ByteArray) (⟨#[98]⟩ : ByteArray) false _ A6.out (WG.keep HG.out (by repeat (first | (with_reducible first | exact HB.out | apply below_alloc | apply pw_below_drewN | apply below_drew1) | exact HB.out)))).mono ?_); rintro e w53 ⟨rfl, hb⟩; have n0_ := Aside0.mk (below_step (by repeat (first | (with_reducible first | exact HB.out | apply below_alloc | apply pw_below_drewN | apply below_drew1) | exact HB.out)) hb); clear HB; have HB := n0_; clear n0_; (try clear hb); (try clear hb2); (try clear hk); (try clear hi)) | (go_at_call 9; (with_reducible refine (skel_Skeleton.calls k (⟨#[112, 208, 176, 121, 112, 97, 49]⟩ : ByteArray) t192 _ A12.out (WG.keep HG.out (by repeat (first | (with_reducible first | exact HB.out | apply below_alloc | apply pw_below_drewN | apply below_drew1) | exact HB.out)))).mono ?_); rintro e w54 ⟨rfl, hb⟩; have n0_ := Aside0.mk (below_step (by repeat (first | (with_reducible first | exact HB.out | apply below_alloc | apply pw_below_drewN | apply below_drew1) | exact HB.out)) hb); clear HB; have HB := n0_; clear n0_; (try clear hb); (try clear hb2); (try clear hk); (try clear hi)) | (go_at_call 15; (with_reducible refine (skel_Level.calls (⟨#[97, 98, 208, 176]⟩ : ByteArray) t193 _ A14.out (WG.keep HG.out (by repeat (first | (with_reducible first | exact HB.out | apply below_alloc | apply pw_below_drewN | apply below_drew1) | exact HB.out)))).mono ?_); rintro e w55 ⟨rfl, hb⟩; have n0_ := Aside0.mk (below_step (by repeat (first | (with_reducible first | exact HB.out | apply below_alloc | apply pw_below_drewN | apply below_drew1) | exact HB.out)) hb); clear HB; have HB := n0_; clear n0_; (try clear hb); (try clear hb2); (try clear hk); (try clear hi)))
      go_ret
      exact ⟨by first | rfl | (simp [errW_none, errW_some] <;> rfl) | (simp [*, errW_none, errW_some] <;> rfl), by repeat (first | (with_reducible first | exact HB.out | apply below_alloc | apply pw_below_drewN | apply below_drew1) | exact HB.out)⟩
    ·rw [if_neg c13] at H
     have c13b0 : (t192.toList == ([112, 97, 121, 112, 97, 108] : List UInt8)) = false := beq_eq_false_iff_ne.mpr c13
     have c13b1 : (t192.toList != ([112, 97, 121, 112, 97, 108] : List UInt8)) = true := bne_iff_ne.mpr c13
     obtain rfl := Option.some.inj H
     go_enter Tryd.func8, Tryd.ntmps8
     go_wp2_with (first | ((with_reducible refine gate_callee (f := 18) rfl ?_); refine goesL_ (some 4) rfl rfl Tryd.func18 (by kernel_rfl) rfl #[.string (⟨#[76, 97, 116, 105, 110]⟩ : ByteArray)] rfl (by (try simp only [List.map_toArray, List.map_cons, List.map_nil]); first | done | rfl | (simp only [List.length_drop, List.length_take]; rfl)) ?_; (with_reducible refine (skel_Of.calls (⟨#[76, 97, 116, 105, 110]⟩ : ByteArray) t187 t188 _ A1.out).mono ?_); rintro e w56 ⟨rfl, hb⟩; refine ⟨_, rfl, ?_⟩; have n0_ := Aside0.mk (below_step (by repeat (first | (with_reducible first | exact HB.out | apply below_alloc | apply pw_below_drewN | apply below_drew1) | exact HB.out)) hb); clear HB; have HB := n0_; clear n0_; (try clear hb); (try clear hb2); (try clear hk); (try clear hi)) | ((with_reducible refine gate_callee (f := 9) rfl ?_); refine goesL_ (some 7) rfl rfl Tryd.func9 (by kernel_rfl) rfl #[.string (⟨#[109]⟩ : ByteArray)] rfl (by (try simp only [List.map_toArray, List.map_cons, List.map_nil]); first | done | rfl | (simp only [List.length_drop, List.length_take]; rfl)) ?_; (with_reducible refine (skel_Skeleton.calls k (⟨#[109]⟩ : ByteArray) t189 _ A2.out (WG.keep HG.out (by repeat (first | (with_reducible first | exact HB.out | apply below_alloc | apply pw_below_drewN | apply below_drew1) | exact HB.out)))).mono ?_); rintro e w57 ⟨rfl, hb⟩; refine ⟨_, rfl, ?_⟩; have n0_ := Aside0.mk (below_step (by repeat (first | (with_reducible first | exact HB.out | apply below_alloc | apply pw_below_drewN | apply below_drew1) | exact HB.out)) hb); clear HB; have HB := n0_; clear n0_; (try clear hb); (try clear hb2); (try clear hk); (try clear hi)) | (go_at_call 10; (with_reducible refine (skel_Alike.calls k (⟨#[114, 110]⟩ : ByteArray) (⟨#[109]⟩ : ByteArray) true _ A4.out (WG.keep HG.out (by repeat (first | (with_reducible first | exact HB.out | apply below_alloc | apply pw_below_drewN | apply below_drew1) | exact HB.out)))).mono ?_); rintro e w58 ⟨rfl, hb⟩; have n0_ := Aside0.mk (below_step (by repeat (first | (with_reducible first | exact HB.out | apply below_alloc | apply pw_below_drewN | apply below_drew1) | exact HB.out)) hb); clear HB; have HB := n0_; clear n0_; (try clear hb); (try clear hb2); (try clear hk); (try clear hi)) | (go_at_call 10; (with_reducible refine (skel_Alike.calls k (⟨#[97]⟩ : ByteArray) (⟨#[98]⟩ : ByteArray) false _ A6.out (WG.keep HG.out (by repeat (first | (with_reducible first | exact HB.out | apply below_alloc | apply pw_below_drewN | apply below_drew1) | exact HB.out)))).mono ?_); rintro e w59 ⟨rfl, hb⟩; have n0_ := Aside0.mk (below_step (by repeat (first | (with_reducible first | exact HB.out | apply below_alloc | apply pw_below_drewN | apply below_drew1) | exact HB.out)) hb); clear HB; have HB := n0_; clear n0_; (try clear hb); (try clear hb2); (try clear hk); (try clear hi)) | (go_at_call 9; (with_reducible refine (skel_Skeleton.calls k (⟨#[112, 208, 176, 121, 112, 97, 49]⟩ : ByteArray) t192 _ A12.out (WG.keep HG.out (by repeat (first | (with_reducible first | exact HB.out | apply below_alloc | apply pw_below_drewN | apply below_drew1) | exact HB.out)))).mono ?_); rintro e w60 ⟨rfl, hb⟩; have n0_ := Aside0.mk (below_step (by repeat (first | (with_reducible first | exact HB.out | apply below_alloc | apply pw_below_drewN | apply below_drew1) | exact HB.out)) hb); clear HB; have HB := n0_; clear n0_; (try clear hb); (try clear hb2); (try clear hk); (try clear hi)))
     go_ret
     exact ⟨by first | rfl | (simp [errW_none, errW_some] <;> rfl) | (simp [*, errW_none, errW_some] <;> rfl), by repeat (first | (with_reducible first | exact HB.out | apply below_alloc | apply pw_below_drewN | apply below_drew1) | exact HB.out)⟩
  ·replace c5 := Bool.eq_false_iff.mpr c5
   subst c5
   have H1 : (some false) = some r := by rw [if_neg (show ¬ (false = true) by decide)] at H; exact H
   clear H
   have H := H1
   clear H1
   obtain rfl := Option.some.inj H
   go_enter Tryd.func8, Tryd.ntmps8
   go_wp2_with (first | ((with_reducible refine gate_callee (f := 18) rfl ?_); refine goesL_ (some 4) rfl rfl Tryd.func18 (by kernel_rfl) rfl #[.string (⟨#[76, 97, 116, 105, 110]⟩ : ByteArray)] rfl (by (try simp only [List.map_toArray, List.map_cons, List.map_nil]); first | done | rfl | (simp only [List.length_drop, List.length_take]; rfl)) ?_; (with_reducible refine (skel_Of.calls (⟨#[76, 97, 116, 105, 110]⟩ : ByteArray) t187 t188 _ A1.out).mono ?_); rintro e w61 ⟨rfl, hb⟩; refine ⟨_, rfl, ?_⟩; have n0_ := Aside0.mk (below_step (by repeat (first | (with_reducible first | exact HB.out | apply below_alloc | apply pw_below_drewN | apply below_drew1) | exact HB.out)) hb); clear HB; have HB := n0_; clear n0_; (try clear hb); (try clear hb2); (try clear hk); (try clear hi)) | ((with_reducible refine gate_callee (f := 9) rfl ?_); refine goesL_ (some 7) rfl rfl Tryd.func9 (by kernel_rfl) rfl #[.string (⟨#[109]⟩ : ByteArray)] rfl (by (try simp only [List.map_toArray, List.map_cons, List.map_nil]); first | done | rfl | (simp only [List.length_drop, List.length_take]; rfl)) ?_; (with_reducible refine (skel_Skeleton.calls k (⟨#[109]⟩ : ByteArray) t189 _ A2.out (WG.keep HG.out (by repeat (first | (with_reducible first | exact HB.out | apply below_alloc | apply pw_below_drewN | apply below_drew1) | exact HB.out)))).mono ?_); rintro e w62 ⟨rfl, hb⟩; refine ⟨_, rfl, ?_⟩; have n0_ := Aside0.mk (below_step (by repeat (first | (with_reducible first | exact HB.out | apply below_alloc | apply pw_below_drewN | apply below_drew1) | exact HB.out)) hb); clear HB; have HB := n0_; clear n0_; (try clear hb); (try clear hb2); (try clear hk); (try clear hi)) | (go_at_call 10; (with_reducible refine (skel_Alike.calls k (⟨#[114, 110]⟩ : ByteArray) (⟨#[109]⟩ : ByteArray) false _ A4.out (WG.keep HG.out (by repeat (first | (with_reducible first | exact HB.out | apply below_alloc | apply pw_below_drewN | apply below_drew1) | exact HB.out)))).mono ?_); rintro e w63 ⟨rfl, hb⟩; have n0_ := Aside0.mk (below_step (by repeat (first | (with_reducible first | exact HB.out | apply below_alloc | apply pw_below_drewN | apply below_drew1) | exact HB.out)) hb); clear HB; have HB := n0_; clear n0_; (try clear hb); (try clear hb2); (try clear hk); (try clear hi)))
   go_ret
   exact ⟨by first | rfl | (simp [errW_none, errW_some] <;> rfl) | (simp [*, errW_none, errW_some] <;> rfl), by repeat (first | (with_reducible first | exact HB.out | apply below_alloc | apply pw_below_drewN | apply below_drew1) | exact HB.out)⟩
 ·rw [if_neg c3] at H
  have c3b0 : (t189.toList == ([114, 110] : List UInt8)) = false := beq_eq_false_iff_ne.mpr c3
  have c3b1 : (t189.toList != ([114, 110] : List UInt8)) = true := bne_iff_ne.mpr c3
  obtain rfl := Option.some.inj H
  go_enter Tryd.func8, Tryd.ntmps8
  go_wp2_with (first | ((with_reducible refine gate_callee (f := 18) rfl ?_); refine goesL_ (some 4) rfl rfl Tryd.func18 (by kernel_rfl) rfl #[.string (⟨#[76, 97, 116, 105, 110]⟩ : ByteArray)] rfl (by (try simp only [List.map_toArray, List.map_cons, List.map_nil]); first | done | rfl | (simp only [List.length_drop, List.length_take]; rfl)) ?_; (with_reducible refine (skel_Of.calls (⟨#[76, 97, 116, 105, 110]⟩ : ByteArray) t187 t188 _ A1.out).mono ?_); rintro e w64 ⟨rfl, hb⟩; refine ⟨_, rfl, ?_⟩; have n0_ := Aside0.mk (below_step (by repeat (first | (with_reducible first | exact HB.out | apply below_alloc | apply pw_below_drewN | apply below_drew1) | exact HB.out)) hb); clear HB; have HB := n0_; clear n0_; (try clear hb); (try clear hb2); (try clear hk); (try clear hi)) | ((with_reducible refine gate_callee (f := 9) rfl ?_); refine goesL_ (some 7) rfl rfl Tryd.func9 (by kernel_rfl) rfl #[.string (⟨#[109]⟩ : ByteArray)] rfl (by (try simp only [List.map_toArray, List.map_cons, List.map_nil]); first | done | rfl | (simp only [List.length_drop, List.length_take]; rfl)) ?_; (with_reducible refine (skel_Skeleton.calls k (⟨#[109]⟩ : ByteArray) t189 _ A2.out (WG.keep HG.out (by repeat (first | (with_reducible first | exact HB.out | apply below_alloc | apply pw_below_drewN | apply below_drew1) | exact HB.out)))).mono ?_); rintro e w65 ⟨rfl, hb⟩; refine ⟨_, rfl, ?_⟩; have n0_ := Aside0.mk (below_step (by repeat (first | (with_reducible first | exact HB.out | apply below_alloc | apply pw_below_drewN | apply below_drew1) | exact HB.out)) hb); clear HB; have HB := n0_; clear n0_; (try clear hb); (try clear hb2); (try clear hk); (try clear hi)))
  go_ret
  exact ⟨by first | rfl | (simp [errW_none, errW_some] <;> rfl) | (simp [*, errW_none, errW_some] <;> rfl), by repeat (first | (with_reducible first | exact HB.out | apply below_alloc | apply pw_below_drewN | apply below_drew1) | exact HB.out)⟩

mutual
def portcullislaw08_SkelAlike.j0 : Nat → ByteArray → ByteArray → ByteArray → Bool → Option (Bool)
 | 0, _, _, _, _ => none
 | k + 1, x0, x1, x2, x22 => if x22 = true then ((portcullislaw08_works.f k).bind fun t376 => (some t376)) else ((skel_Alike.f k x0 x0).bind fun t377 => (if t377 = true then ((skel_Alike.f k x0 x1).bind fun t378 => ((skel_Alike.f k x1 x0).bind fun t379 => (if (t378 == t379) = true then ((skel_Alike.f k x0 x1).bind fun t380 => (if t380 = true then ((skel_Alike.f k x1 x2).bind fun t381 => (if t381 = true then ((skel_Alike.f k x0 x2).bind fun t382 => (portcullislaw08_SkelAlike.j1 k x0 x1 t382)) else (portcullislaw08_SkelAlike.j1 k x0 x1 true))) else (portcullislaw08_SkelAlike.j1 k x0 x1 true))) else (portcullislaw08_SkelAlike.j1 k x0 x1 false)))) else (portcullislaw08_SkelAlike.j1 k x0 x1 false)))
def portcullislaw08_SkelAlike.j1 : Nat → ByteArray → ByteArray → Bool → Option (Bool)
 | 0, _, _, _ => none
 | k + 1, x0, x1, x7 => (portcullisref04_Text.f k x0).bind fun t383 => ((portcullisref04_Text.f k x1).bind fun t384 => (if x7 = true then ((skel_Alike.f k x0 t383).bind fun t385 => (if t385 = true then (if t383.toList = t384.toList then ((skel_Alike.f k x0 x1).bind fun t386 => (if t386 = true then ((portcullislaw08_works.f k).bind fun t387 => (some t387)) else (some false))) else ((portcullislaw08_works.f k).bind fun t388 => (some t388))) else (some false))) else (some false)))
end
def portcullislaw08_SkelAlike.f (k : Nat) (a0 : ByteArray) (a1 : ByteArray) (a2 : ByteArray) : Option (Bool) := if (a0.size : Int) > 600 then (portcullislaw08_SkelAlike.j0 k a0 a1 a2 true) else (if (a1.size : Int) > 600 then (portcullislaw08_SkelAlike.j0 k a0 a1 a2 true) else (portcullislaw08_SkelAlike.j0 k a0 a1 a2 (decide ((a2.size : Int) > 600))))
set_option maxHeartbeats 8000000 in
set_option maxRecDepth 100000 in
theorem portcullislaw08_SkelAlike.calls (k : Nat) (a0 : ByteArray) (a1 : ByteArray) (a2 : ByteArray) (r : Bool) (w : World) (h : portcullislaw08_SkelAlike.f k a0 a1 a2 = some r) (hG : WG w) :
  Calls Tryd.prog 4 #[.string a0, .string a1, .string a2] w fun e w' => e = .returned (.bool r) ∧ Below w.heap.size w w' := by
 have HG := Aside0.mk hG
 clear hG
 have HB := Aside0.mk (Below.refl w.heap.size w)
 have H : (if (a0.size : Int) > 600 then (portcullislaw08_SkelAlike.j0 k a0 a1 a2 true) else (if (a1.size : Int) > 600 then (portcullislaw08_SkelAlike.j0 k a0 a1 a2 true) else (portcullislaw08_SkelAlike.j0 k a0 a1 a2 (decide ((a2.size : Int) > 600))))) = some r := h
 clear h
 have HC4 := Aside0.mk H
 clear H
 go_enter Tryd.func4, Tryd.ntmps4
 go_upto_region 1 with (fail)
 go_cut [22] (fun v22 wc => ∃ (kq : Nat) (x22_3 : Bool), v22 = .bool x22_3 ∧ Aside0 (portcullislaw08_SkelAlike.j0 kq a0 a1 a2 x22_3 = some r) ∧ Aside0 (kq ≤ k) ∧ Aside0 (Below w.heap.size w wc))
 case first =>
  have H := HC4.out
  clear HC4
  by_cases c5 : (a0.size : Int) > 600
  ·rw [if_pos c5] at H
   have c5b0 : decide (600 < (a0.size : Int)) = true := decide_eq_true c5
   have c5b1 : decide (600 < a0.size) = true := decide_eq_true (by omega)
   clear c5
   (first | rw [c5b0] | (simp only [i64_w, i32_w]; rw [c5b0]) | skip)
   have H' := Aside0.mk H
   clear H
   go_wp2
   go_meet
   case rel => exact ⟨_, (true), (by first | rfl | (simp; done) | (simp [*]; done)), H', ⟨by first | omega | exact Nat.le_refl _⟩, ⟨by repeat (first | (with_reducible first | exact HB.out | apply below_alloc | apply pw_below_drewN | apply below_drew1) | exact HB.out)⟩⟩
  ·rw [if_neg c5] at H
   have c5b0 : decide (600 < (a0.size : Int)) = false := decide_eq_false c5
   have c5b1 : decide (600 < a0.size) = false := decide_eq_false (by omega)
   clear c5
   (first | rw [c5b0] | (simp only [i64_w, i32_w]; rw [c5b0]) | skip)
   by_cases c6 : (a1.size : Int) > 600
   ·rw [if_pos c6] at H
    have c6b0 : decide (600 < (a1.size : Int)) = true := decide_eq_true c6
    have c6b1 : decide (600 < a1.size) = true := decide_eq_true (by omega)
    clear c6
    have H' := Aside0.mk H
    clear H
    go_wp2
    go_meet
    case rel => exact ⟨_, (true), (by first | rfl | (simp; done) | (simp [*]; done)), H', ⟨by first | omega | exact Nat.le_refl _⟩, ⟨by repeat (first | (with_reducible first | exact HB.out | apply below_alloc | apply pw_below_drewN | apply below_drew1) | exact HB.out)⟩⟩
   ·rw [if_neg c6] at H
    have c6b0 : decide (600 < (a1.size : Int)) = false := decide_eq_false c6
    have c6b1 : decide (600 < a1.size) = false := decide_eq_false (by omega)
    clear c6
    have H' := Aside0.mk H
    clear H
    go_wp2
    go_meet
    case rel => exact ⟨_, (decide ((a2.size : Int) > 600)), (by first | rfl | (simp; done) | (simp [*]; done)), H', ⟨by first | omega | exact Nat.le_refl _⟩, ⟨by repeat (first | (with_reducible first | exact HB.out | apply below_alloc | apply pw_below_drewN | apply below_drew1) | exact HB.out)⟩⟩
 case rest =>
  clear HC4
  try clear p2
  try clear c4
  try clear c5
  try clear c5b0
  try clear c5b1
  try clear c6
  try clear c6b0
  try clear c6b1
  obtain ⟨kq, x22_3, rfl, HA, HJ3, HB⟩ := hcut
  cases kq with
  | zero => exact absurd HA.out (by simp [portcullislaw08_SkelAlike.j0])
  | succ kj3 =>
   have H := HA.out
   clear HA
   simp only [portcullislaw08_SkelAlike.j0] at H
   by_cases c7 : x22_3 = true
   ·subst c7
    have H1 : ((portcullislaw08_works.f kj3).bind fun t376 => (some t376)) = some r := by rw [if_pos rfl] at H; exact H
    clear H
    have H := H1
    clear H1
    replace H := Option.bind_eq_some_iff.mp H
    obtain ⟨t376, A80, H⟩ := H
    replace H : (some t376) = some r := H
    have A8 := Aside0.mk A80
    clear A80
    obtain rfl := Option.some.inj H
    go_wp2_with (first | ((with_reducible refine gate_callee (f := 8) rfl ?_); refine goesL_ (some 23) rfl rfl Tryd.func8 (by kernel_rfl) rfl #[] rfl (by (try simp only [List.map_toArray, List.map_cons, List.map_nil]); first | done | rfl | (simp only [List.length_drop, List.length_take]; rfl)) ?_; (with_reducible refine (portcullislaw08_works.calls kj3  t376 _ A8.out (WG.keep HG.out (by repeat (first | (with_reducible first | exact HB.out | apply below_alloc | apply pw_below_drewN | apply below_drew1) | exact HB.out)))).mono ?_); rintro e w9 ⟨rfl, hb⟩; refine ⟨_, rfl, ?_⟩; have n0_ := Aside0.mk (below_step (by repeat (first | (with_reducible first | exact HB.out | apply below_alloc | apply pw_below_drewN | apply below_drew1) | exact HB.out)) hb); clear HB; have HB := n0_; clear n0_; (try clear hb); (try clear hb2); (try clear hk); (try clear hi)))
    go_ret
    exact ⟨by first | rfl | (simp [errW_none, errW_some] <;> rfl) | (simp [*, errW_none, errW_some] <;> rfl), by repeat (first | (with_reducible first | exact HB.out | apply below_alloc | apply pw_below_drewN | apply below_drew1) | exact HB.out)⟩
   ·replace c7 := Bool.eq_false_iff.mpr c7
    subst c7
    have H1 : ((skel_Alike.f kj3 a0 a0).bind fun t377 => (if t377 = true then ((skel_Alike.f kj3 a0 a1).bind fun t378 => ((skel_Alike.f kj3 a1 a0).bind fun t379 => (if (t378 == t379) = true then ((skel_Alike.f kj3 a0 a1).bind fun t380 => (if t380 = true then ((skel_Alike.f kj3 a1 a2).bind fun t381 => (if t381 = true then ((skel_Alike.f kj3 a0 a2).bind fun t382 => (portcullislaw08_SkelAlike.j1 kj3 a0 a1 t382)) else (portcullislaw08_SkelAlike.j1 kj3 a0 a1 true))) else (portcullislaw08_SkelAlike.j1 kj3 a0 a1 true))) else (portcullislaw08_SkelAlike.j1 kj3 a0 a1 false)))) else (portcullislaw08_SkelAlike.j1 kj3 a0 a1 false))) = some r := by rw [if_neg (show ¬ (false = true) by decide)] at H; exact H
    clear H
    have H := H1
    clear H1
    have HC10 := Aside0.mk H
    clear H
    go_upto_region 3 with (fail)
    go_cut [7] (fun v7 wc => ∃ (kq : Nat) (x7_9 : Bool), v7 = .bool x7_9 ∧ Aside0 (portcullislaw08_SkelAlike.j1 kq a0 a1 x7_9 = some r) ∧ Aside0 (kq ≤ kj3) ∧ Aside0 (Below w.heap.size w wc))
    case first =>
     have H := HC10.out
     clear HC10
     replace H := Option.bind_eq_some_iff.mp H
     obtain ⟨t377, A110, H⟩ := H
     replace H : (if t377 = true then ((skel_Alike.f kj3 a0 a1).bind fun t378 => ((skel_Alike.f kj3 a1 a0).bind fun t379 => (if (t378 == t379) = true then ((skel_Alike.f kj3 a0 a1).bind fun t380 => (if t380 = true then ((skel_Alike.f kj3 a1 a2).bind fun t381 => (if t381 = true then ((skel_Alike.f kj3 a0 a2).bind fun t382 => (portcullislaw08_SkelAlike.j1 kj3 a0 a1 t382)) else (portcullislaw08_SkelAlike.j1 kj3 a0 a1 true))) else (portcullislaw08_SkelAlike.j1 kj3 a0 a1 true))) else (portcullislaw08_SkelAlike.j1 kj3 a0 a1 false)))) else (portcullislaw08_SkelAlike.j1 kj3 a0 a1 false)) = some r := H
     have A11 := Aside0.mk A110
     clear A110
     by_cases c12 : t377 = true
     ·subst c12
      have H1 : ((skel_Alike.f kj3 a0 a1).bind fun t378 => ((skel_Alike.f kj3 a1 a0).bind fun t379 => (if (t378 == t379) = true then ((skel_Alike.f kj3 a0 a1).bind fun t380 => (if t380 = true then ((skel_Alike.f kj3 a1 a2).bind fun t381 => (if t381 = true then ((skel_Alike.f kj3 a0 a2).bind fun t382 => (portcullislaw08_SkelAlike.j1 kj3 a0 a1 t382)) else (portcullislaw08_SkelAlike.j1 kj3 a0 a1 true))) else (portcullislaw08_SkelAlike.j1 kj3 a0 a1 true))) else (portcullislaw08_SkelAlike.j1 kj3 a0 a1 false)))) = some r := by rw [if_pos rfl] at H; exact H
      clear H
      have H := H1
      clear H1
      replace H := Option.bind_eq_some_iff.mp H
      obtain ⟨t378, A130, H⟩ := H
      replace H : ((skel_Alike.f kj3 a1 a0).bind fun t379 => (if (t378 == t379) = true then ((skel_Alike.f kj3 a0 a1).bind fun t380 => (if t380 = true then ((skel_Alike.f kj3 a1 a2).bind fun t381 => (if t381 = true then ((skel_Alike.f kj3 a0 a2).bind fun t382 => (portcullislaw08_SkelAlike.j1 kj3 a0 a1 t382)) else (portcullislaw08_SkelAlike.j1 kj3 a0 a1 true))) else (portcullislaw08_SkelAlike.j1 kj3 a0 a1 true))) else (portcullislaw08_SkelAlike.j1 kj3 a0 a1 false))) = some r := H
      have A13 := Aside0.mk A130
      clear A130
      replace H := Option.bind_eq_some_iff.mp H
      obtain ⟨t379, A140, H⟩ := H
      replace H : (if (t378 == t379) = true then ((skel_Alike.f kj3 a0 a1).bind fun t380 => (if t380 = true then ((skel_Alike.f kj3 a1 a2).bind fun t381 => (if t381 = true then ((skel_Alike.f kj3 a0 a2).bind fun t382 => (portcullislaw08_SkelAlike.j1 kj3 a0 a1 t382)) else (portcullislaw08_SkelAlike.j1 kj3 a0 a1 true))) else (portcullislaw08_SkelAlike.j1 kj3 a0 a1 true))) else (portcullislaw08_SkelAlike.j1 kj3 a0 a1 false)) = some r := H
      have A14 := Aside0.mk A140
      clear A140
      by_cases c15 : (t378 == t379) = true
      ·rw [if_pos c15] at H
       have c15b0 : (t378 == t379) = true := c15
       (try (have c15b1 : decide (t378 = t379) = true := by simpa using c15))
       (try (have c15b2 : (t378 == t379) = true := by simpa using c15))
       clear c15
       (first | rw [c15b0] | (simp only [i64_w, i32_w]; rw [c15b0]) | skip)
       replace H := Option.bind_eq_some_iff.mp H
       obtain ⟨t380, A160, H⟩ := H
       replace H : (if t380 = true then ((skel_Alike.f kj3 a1 a2).bind fun t381 => (if t381 = true then ((skel_Alike.f kj3 a0 a2).bind fun t382 => (portcullislaw08_SkelAlike.j1 kj3 a0 a1 t382)) else (portcullislaw08_SkelAlike.j1 kj3 a0 a1 true))) else (portcullislaw08_SkelAlike.j1 kj3 a0 a1 true)) = some r := H
       have A16 := Aside0.mk A160
       clear A160
       by_cases c17 : t380 = true
       ·subst c17
        obtain rfl : t378 = true := Option.some.inj (A13.out.symm.trans A16.out)
        have H1 : ((skel_Alike.f kj3 a1 a2).bind fun t381 => (if t381 = true then ((skel_Alike.f kj3 a0 a2).bind fun t382 => (portcullislaw08_SkelAlike.j1 kj3 a0 a1 t382)) else (portcullislaw08_SkelAlike.j1 kj3 a0 a1 true))) = some r := by rw [if_pos rfl] at H; exact H
        clear H
        have H := H1
        clear H1
        replace H := Option.bind_eq_some_iff.mp H
        obtain ⟨t381, A180, H⟩ := H
        replace H : (if t381 = true then ((skel_Alike.f kj3 a0 a2).bind fun t382 => (portcullislaw08_SkelAlike.j1 kj3 a0 a1 t382)) else (portcullislaw08_SkelAlike.j1 kj3 a0 a1 true)) = some r := H
        have A18 := Aside0.mk A180
        clear A180
        by_cases c19 : t381 = true
        ·subst c19
         have H1 : ((skel_Alike.f kj3 a0 a2).bind fun t382 => (portcullislaw08_SkelAlike.j1 kj3 a0 a1 t382)) = some r := by rw [if_pos rfl] at H; exact H
         clear H
         have H := H1
         clear H1
         replace H := Option.bind_eq_some_iff.mp H
         obtain ⟨t382, A200, H⟩ := H
         replace H : (portcullislaw08_SkelAlike.j1 kj3 a0 a1 t382) = some r := H
         have A20 := Aside0.mk A200
         clear A200
         have H' := Aside0.mk H
         clear H
         go_wp2_with (first | ((with_reducible refine gate_callee (f := 10) rfl ?_); refine goesL_ (some 26) rfl rfl Tryd.func10 (by kernel_rfl) rfl #[.string a0, .string a0] rfl (by (try simp only [List.map_toArray, List.map_cons, List.map_nil]); first | done | rfl | (simp only [List.length_drop, List.length_take]; rfl)) ?_; (with_reducible refine (skel_Alike.calls kj3 a0 a0 true _ A11.out (WG.keep HG.out (by repeat (first | (with_reducible first | exact HB.out | apply below_alloc | apply pw_below_drewN | apply below_drew1) | exact HB.out)))).mono ?_); rintro e w21 ⟨rfl, hb⟩; refine ⟨_, rfl, ?_⟩; have n0_ := Aside0.mk (below_step (by repeat (first | (with_reducible first | exact HB.out | apply below_alloc | apply pw_below_drewN | apply below_drew1) | exact HB.out)) hb); clear HB; have HB := n0_; clear n0_; (try clear hb); (try clear hb2); (try clear hk); (try clear hi)) | (go_at_call 10; (with_reducible refine (skel_Alike.calls kj3 a0 a1 t378 _ A13.out (WG.keep HG.out (by repeat (first | (with_reducible first | exact HB.out | apply below_alloc | apply pw_below_drewN | apply below_drew1) | exact HB.out)))).mono ?_); rintro e w22 ⟨rfl, hb⟩; have n0_ := Aside0.mk (below_step (by repeat (first | (with_reducible first | exact HB.out | apply below_alloc | apply pw_below_drewN | apply below_drew1) | exact HB.out)) hb); clear HB; have HB := n0_; clear n0_; (try clear hb); (try clear hb2); (try clear hk); (try clear hi)) | (go_at_call 10; (with_reducible refine (skel_Alike.calls kj3 a1 a0 t379 _ A14.out (WG.keep HG.out (by repeat (first | (with_reducible first | exact HB.out | apply below_alloc | apply pw_below_drewN | apply below_drew1) | exact HB.out)))).mono ?_); rintro e w23 ⟨rfl, hb⟩; have n0_ := Aside0.mk (below_step (by repeat (first | (with_reducible first | exact HB.out | apply below_alloc | apply pw_below_drewN | apply below_drew1) | exact HB.out)) hb); clear HB; have HB := n0_; clear n0_; (try clear hb); (try clear hb2); (try clear hk); (try clear hi)) | (go_at_call 10; (with_reducible refine (skel_Alike.calls kj3 a0 a1 true _ A16.out (WG.keep HG.out (by repeat (first | (with_reducible first | exact HB.out | apply below_alloc | apply pw_below_drewN | apply below_drew1) | exact HB.out)))).mono ?_); rintro e w24 ⟨rfl, hb⟩; have n0_ := Aside0.mk (below_step (by repeat (first | (with_reducible first | exact HB.out | apply below_alloc | apply pw_below_drewN | apply below_drew1) | exact HB.out)) hb); clear HB; have HB := n0_; clear n0_; (try clear hb); (try clear hb2); (try clear hk); (try clear hi)) | (go_at_call 10; (with_reducible refine (skel_Alike.calls kj3 a1 a2 true _ A18.out (WG.keep HG.out (by repeat (first | (with_reducible first | exact HB.out | apply below_alloc | apply pw_below_drewN | apply below_drew1) | exact HB.out)))).mono ?_); rintro e w25 ⟨rfl, hb⟩; have n0_ := Aside0.mk (below_step (by repeat (first | (with_reducible first | exact HB.out | apply below_alloc | apply pw_below_drewN | apply below_drew1) | exact HB.out)) hb); clear HB; have HB := n0_; clear n0_; (try clear hb); (try clear hb2); (try clear hk); (try clear hi)) | (go_at_call 10; (with_reducible refine (skel_Alike.calls kj3 a0 a2 t382 _ A20.out (WG.keep HG.out (by repeat (first | (with_reducible first | exact HB.out | apply below_alloc | apply pw_below_drewN | apply below_drew1) | exact HB.out)))).mono ?_); rintro e w26 ⟨rfl, hb⟩; have n0_ := Aside0.mk (below_step (by repeat (first | (with_reducible first | exact HB.out | apply below_alloc | apply pw_below_drewN | apply below_drew1) | exact HB.out)) hb); clear HB; have HB := n0_; clear n0_; (try clear hb); (try clear hb2); (try clear hk); (try clear hi)))
         go_meet
         case rel => exact ⟨_, (t382), (by first | rfl | (simp; done) | (simp [*]; done)), H', ⟨by have := HJ3.out; first | omega | exact Nat.le_refl _⟩, ⟨by repeat (first | (with_reducible first | exact HB.out | apply below_alloc | apply pw_below_drewN | apply below_drew1) | exact HB.out)⟩⟩
        ·replace c19 := Bool.eq_false_iff.mpr c19
         subst c19
         have H1 : (portcullislaw08_SkelAlike.j1 kj3 a0 a1 true) = some r := by rw [if_neg (show ¬ (false = true) by decide)] at H; exact H
         clear H
         have H := H1
         clear H1
         have H' := Aside0.mk H
         clear H
         go_wp2_with (first | ((with_reducible refine gate_callee (f := 10) rfl ?_); refine goesL_ (some 26) rfl rfl Tryd.func10 (by kernel_rfl) rfl #[.string a0, .string a0] rfl (by (try simp only [List.map_toArray, List.map_cons, List.map_nil]); first | done | rfl | (simp only [List.length_drop, List.length_take]; rfl)) ?_; (with_reducible refine (skel_Alike.calls kj3 a0 a0 true _ A11.out (WG.keep HG.out (by repeat (first | (with_reducible first | exact HB.out | apply below_alloc | apply pw_below_drewN | apply below_drew1) | exact HB.out)))).mono ?_); rintro e w27 ⟨rfl, hb⟩; refine ⟨_, rfl, ?_⟩; have n0_ := Aside0.mk (below_step (by repeat (first | (with_reducible first | exact HB.out | apply below_alloc | apply pw_below_drewN | apply below_drew1) | exact HB.out)) hb); clear HB; have HB := n0_; clear n0_; (try clear hb); (try clear hb2); (try clear hk); (try clear hi)) | (go_at_call 10; (with_reducible refine (skel_Alike.calls kj3 a0 a1 t378 _ A13.out (WG.keep HG.out (by repeat (first | (with_reducible first | exact HB.out | apply below_alloc | apply pw_below_drewN | apply below_drew1) | exact HB.out)))).mono ?_); rintro e w28 ⟨rfl, hb⟩; have n0_ := Aside0.mk (below_step (by repeat (first | (with_reducible first | exact HB.out | apply below_alloc | apply pw_below_drewN | apply below_drew1) | exact HB.out)) hb); clear HB; have HB := n0_; clear n0_; (try clear hb); (try clear hb2); (try clear hk); (try clear hi)) | (go_at_call 10; (with_reducible refine (skel_Alike.calls kj3 a1 a0 t379 _ A14.out (WG.keep HG.out (by repeat (first | (with_reducible first | exact HB.out | apply below_alloc | apply pw_below_drewN | apply below_drew1) | exact HB.out)))).mono ?_); rintro e w29 ⟨rfl, hb⟩; have n0_ := Aside0.mk (below_step (by repeat (first | (with_reducible first | exact HB.out | apply below_alloc | apply pw_below_drewN | apply below_drew1) | exact HB.out)) hb); clear HB; have HB := n0_; clear n0_; (try clear hb); (try clear hb2); (try clear hk); (try clear hi)) | (go_at_call 10; (with_reducible refine (skel_Alike.calls kj3 a0 a1 true _ A16.out (WG.keep HG.out (by repeat (first | (with_reducible first | exact HB.out | apply below_alloc | apply pw_below_drewN | apply below_drew1) | exact HB.out)))).mono ?_); rintro e w30 ⟨rfl, hb⟩; have n0_ := Aside0.mk (below_step (by repeat (first | (with_reducible first | exact HB.out | apply below_alloc | apply pw_below_drewN | apply below_drew1) | exact HB.out)) hb); clear HB; have HB := n0_; clear n0_; (try clear hb); (try clear hb2); (try clear hk); (try clear hi)) | (go_at_call 10; (with_reducible refine (skel_Alike.calls kj3 a1 a2 false _ A18.out (WG.keep HG.out (by repeat (first | (with_reducible first | exact HB.out | apply below_alloc | apply pw_below_drewN | apply below_drew1) | exact HB.out)))).mono ?_); rintro e w31 ⟨rfl, hb⟩; have n0_ := Aside0.mk (below_step (by repeat (first | (with_reducible first | exact HB.out | apply below_alloc | apply pw_below_drewN | apply below_drew1) | exact HB.out)) hb); clear HB; have HB := n0_; clear n0_; (try clear hb); (try clear hb2); (try clear hk); (try clear hi)))
         go_meet
         case rel => exact ⟨_, (true), (by first | rfl | (simp; done) | (simp [*]; done)), H', ⟨by have := HJ3.out; first | omega | exact Nat.le_refl _⟩, ⟨by repeat (first | (with_reducible first | exact HB.out | apply below_alloc | apply pw_below_drewN | apply below_drew1) | exact HB.out)⟩⟩
       ·replace c17 := Bool.eq_false_iff.mpr c17
        subst c17
        obtain rfl : t378 = false := Option.some.inj (A13.out.symm.trans A16.out)
        have H1 : (portcullislaw08_SkelAlike.j1 kj3 a0 a1 true) = some r := by rw [if_neg (show ¬ (false = true) by decide)] at H; exact H
        clear H
        have H := H1
        clear H1
        have H' := Aside0.mk H
        clear H
        go_wp2_with (first | ((with_reducible refine gate_callee (f := 10) rfl ?_); refine goesL_ (some 26) rfl rfl Tryd.func10 (by kernel_rfl) rfl #[.string a0, .string a0] rfl (by (try simp only [List.map_toArray, List.map_cons, List.map_nil]); first | done | rfl | (simp only [List.length_drop, List.length_take]; rfl)) ?_; (with_reducible refine (skel_Alike.calls kj3 a0 a0 true _ A11.out (WG.keep HG.out (by repeat (first | (with_reducible first | exact HB.out | apply below_alloc | apply pw_below_drewN | apply below_drew1) | exact HB.out)))).mono ?_); rintro e w32 ⟨rfl, hb⟩; refine ⟨_, rfl, ?_⟩; have n0_ := Aside0.mk (below_step (by repeat (first | (with_reducible first | exact HB.out | apply below_alloc | apply pw_below_drewN | apply below_drew1) | exact HB.out)) hb); clear HB; have HB := n0_; clear n0_; (try clear hb); (try clear hb2); (try clear hk); (try clear hi)) | (go_at_call 10; (with_reducible refine (skel_Alike.calls kj3 a0 a1 t378 _ A13.out (WG.keep HG.out (by repeat (first | (with_reducible first | exact HB.out | apply below_alloc | apply pw_below_drewN | apply below_drew1) | exact HB.out)))).mono ?_); rintro e w33 ⟨rfl, hb⟩; have n0_ := Aside0.mk (below_step (by repeat (first | (with_reducible first | exact HB.out | apply below_alloc | apply pw_below_drewN | apply below_drew1) | exact HB.out)) hb); clear HB; have HB := n0_; clear n0_; (try clear hb); (try clear hb2); (try clear hk); (try clear hi)) | (go_at_call 10; (with_reducible refine (skel_Alike.calls kj3 a1 a0 t379 _ A14.out (WG.keep HG.out (by repeat (first | (with_reducible first | exact HB.out | apply below_alloc | apply pw_below_drewN | apply below_drew1) | exact HB.out)))).mono ?_); rintro e w34 ⟨rfl, hb⟩; have n0_ := Aside0.mk (below_step (by repeat (first | (with_reducible first | exact HB.out | apply below_alloc | apply pw_below_drewN | apply below_drew1) | exact HB.out)) hb); clear HB; have HB := n0_; clear n0_; (try clear hb); (try clear hb2); (try clear hk); (try clear hi)) | (go_at_call 10; (with_reducible refine (skel_Alike.calls kj3 a0 a1 false _ A16.out (WG.keep HG.out (by repeat (first | (with_reducible first | exact HB.out | apply below_alloc | apply pw_below_drewN | apply below_drew1) | exact HB.out)))).mono ?_); rintro e w35 ⟨rfl, hb⟩; have n0_ := Aside0.mk (below_step (by repeat (first | (with_reducible first | exact HB.out | apply below_alloc | apply pw_below_drewN | apply below_drew1) | exact HB.out)) hb); clear HB; have HB := n0_; clear n0_; (try clear hb); (try clear hb2); (try clear hk); (try clear hi)))
        go_meet
        case rel => exact ⟨_, (true), (by first | rfl | (simp; done) | (simp [*]; done)), H', ⟨by have := HJ3.out; first | omega | exact Nat.le_refl _⟩, ⟨by repeat (first | (with_reducible first | exact HB.out | apply below_alloc | apply pw_below_drewN | apply below_drew1) | exact HB.out)⟩⟩
      ·rw [if_neg c15] at H
       have c15b0 : (t378 == t379) = false := by simpa using c15
       (try (have c15b1 : decide (t378 = t379) = false := by simpa using c15))
       (try (have c15b2 : (t378 == t379) = false := by simpa using c15))
       (try (have c15b3 : ¬ (t378 = t379) := by simpa using c15))
       clear c15
       (first | rw [c15b0] | (simp only [i64_w, i32_w]; rw [c15b0]) | skip)
       have H' := Aside0.mk H
       clear H
       go_wp2_with (first | ((with_reducible refine gate_callee (f := 10) rfl ?_); refine goesL_ (some 26) rfl rfl Tryd.func10 (by kernel_rfl) rfl #[.string a0, .string a0] rfl (by (try simp only [List.map_toArray, List.map_cons, List.map_nil]); first | done | rfl | (simp only [List.length_drop, List.length_take]; rfl)) ?_; (with_reducible refine (skel_Alike.calls kj3 a0 a0 true _ A11.out (WG.keep HG.out (by repeat (first | (with_reducible first | exact HB.out | apply below_alloc | apply pw_below_drewN | apply below_drew1) | exact HB.out)))).mono ?_); rintro e w36 ⟨rfl, hb⟩; refine ⟨_, rfl, ?_⟩; have n0_ := Aside0.mk (below_step (by repeat (first | (with_reducible first | exact HB.out | apply below_alloc | apply pw_below_drewN | apply below_drew1) | exact HB.out)) hb); clear HB; have HB := n0_; clear n0_; (try clear hb); (try clear hb2); (try clear hk); (try clear hi)) | (go_at_call 10; (with_reducible refine (skel_Alike.calls kj3 a0 a1 t378 _ A13.out (WG.keep HG.out (by repeat (first | (with_reducible first | exact HB.out | apply below_alloc | apply pw_below_drewN | apply below_drew1) | exact HB.out)))).mono ?_); rintro e w37 ⟨rfl, hb⟩; have n0_ := Aside0.mk (below_step (by repeat (first | (with_reducible first | exact HB.out | apply below_alloc | apply pw_below_drewN | apply below_drew1) | exact HB.out)) hb); clear HB; have HB := n0_; clear n0_; (try clear hb); (try clear hb2); (try clear hk); (try clear hi)) | (go_at_call 10; (with_reducible refine (skel_Alike.calls kj3 a1 a0 t379 _ A14.out (WG.keep HG.out (by repeat (first | (with_reducible first | exact HB.out | apply below_alloc | apply pw_below_drewN | apply below_drew1) | exact HB.out)))).mono ?_); rintro e w38 ⟨rfl, hb⟩; have n0_ := Aside0.mk (below_step (by repeat (first | (with_reducible first | exact HB.out | apply below_alloc | apply pw_below_drewN | apply below_drew1) | exact HB.out)) hb); clear HB; have HB := n0_; clear n0_; (try clear hb); (try clear hb2); (try clear hk); (try clear hi)))
       go_meet
       case rel => exact ⟨_, (false), (by first | rfl | (simp; done) | (simp [*]; done)), H', ⟨by have := HJ3.out; first | omega | exact Nat.le_refl _⟩, ⟨by repeat (first | (with_reducible first | exact HB.out | apply below_alloc | apply pw_below_drewN | apply below_drew1) | exact HB.out)⟩⟩
     ·replace c12 := Bool.eq_false_iff.mpr c12
      subst c12
      have H1 : (portcullislaw08_SkelAlike.j1 kj3 a0 a1 false) = some r := by rw [if_neg (show ¬ (false = true) by decide)] at H; exact H
      clear H
      have H := H1
      clear H1
      have H' := Aside0.mk H
      clear H
      go_wp2_with (first | ((with_reducible refine gate_callee (f := 10) rfl ?_); refine goesL_ (some 26) rfl rfl Tryd.func10 (by kernel_rfl) rfl #[.string a0, .string a0] rfl (by (try simp only [List.map_toArray, List.map_cons, List.map_nil]); first | done | rfl | (simp only [List.length_drop, List.length_take]; rfl)) ?_; (with_reducible refine (skel_Alike.calls kj3 a0 a0 false _ A11.out (WG.keep HG.out (by repeat (first | (with_reducible first | exact HB.out | apply below_alloc | apply pw_below_drewN | apply below_drew1) | exact HB.out)))).mono ?_); rintro e w39 ⟨rfl, hb⟩; refine ⟨_, rfl, ?_⟩; have n0_ := Aside0.mk (below_step (by repeat (first | (with_reducible first | exact HB.out | apply below_alloc | apply pw_below_drewN | apply below_drew1) | exact HB.out)) hb); clear HB; have HB := n0_; clear n0_; (try clear hb); (try clear hb2); (try clear hk); (try clear hi)))
      go_meet
      case rel => exact ⟨_, (false), (by first | rfl | (simp; done) | (simp [*]; done)), H', ⟨by have := HJ3.out; first | omega | exact Nat.le_refl _⟩, ⟨by repeat (first | (with_reducible first | exact HB.out | apply below_alloc | apply pw_below_drewN | apply below_drew1) | exact HB.out)⟩⟩
    case rest =>
     clear HC10
     try clear c1
     try clear p2
     try clear c4
     try clear c5
     try clear c5b0
     try clear c5b1
     try clear c6
     try clear c6b0
     try clear c6b1
     try clear c7
     try clear c8
     try clear c10
     try clear c12
     try clear c15
     try clear c15b0
     try clear c15b1
     try clear c15b2
     try clear c17
     try clear c19
     try clear p2
     obtain ⟨kq, x7_9, rfl, HA, HJ9, HB⟩ := hcut
     cases kq with
     | zero => exact absurd HA.out (by simp [portcullislaw08_SkelAlike.j1])
     | succ kj9 =>
      have H := HA.out
      clear HA
      simp only [portcullislaw08_SkelAlike.j1] at H
      replace H := Option.bind_eq_some_iff.mp H
      obtain ⟨t383, A400, H⟩ := H
      replace H : ((portcullisref04_Text.f kj9 a1).bind fun t384 => (if x7_9 = true then ((skel_Alike.f kj9 a0 t383).bind fun t385 => (if t385 = true then (if t383.toList = t384.toList then ((skel_Alike.f kj9 a0 a1).bind fun t386 => (if t386 = true then ((portcullislaw08_works.f kj9).bind fun t387 => (some t387)) else (some false))) else ((portcullislaw08_works.f kj9).bind fun t388 => (some t388))) else (some false))) else (some false))) = some r := H
      have A40 := Aside0.mk A400
      clear A400
      replace H := Option.bind_eq_some_iff.mp H
      obtain ⟨t384, A410, H⟩ := H
      replace H : (if x7_9 = true then ((skel_Alike.f kj9 a0 t383).bind fun t385 => (if t385 = true then (if t383.toList = t384.toList then ((skel_Alike.f kj9 a0 a1).bind fun t386 => (if t386 = true then ((portcullislaw08_works.f kj9).bind fun t387 => (some t387)) else (some false))) else ((portcullislaw08_works.f kj9).bind fun t388 => (some t388))) else (some false))) else (some false)) = some r := H
      have A41 := Aside0.mk A410
      clear A410
      by_cases c42 : x7_9 = true
      ·subst c42
       have H1 : ((skel_Alike.f kj9 a0 t383).bind fun t385 => (if t385 = true then (if t383.toList = t384.toList then ((skel_Alike.f kj9 a0 a1).bind fun t386 => (if t386 = true then ((portcullislaw08_works.f kj9).bind fun t387 => (some t387)) else (some false))) else ((portcullislaw08_works.f kj9).bind fun t388 => (some t388))) else (some false))) = some r := by rw [if_pos rfl] at H; exact H
       clear H
       have H := H1
       clear H1
       replace H := Option.bind_eq_some_iff.mp H
       obtain ⟨t385, A430, H⟩ := H
       replace H : (if t385 = true then (if t383.toList = t384.toList then ((skel_Alike.f kj9 a0 a1).bind fun t386 => (if t386 = true then ((portcullislaw08_works.f kj9).bind fun t387 => (some t387)) else (some false))) else ((portcullislaw08_works.f kj9).bind fun t388 => (some t388))) else (some false)) = some r := H
       have A43 := Aside0.mk A430
       clear A430
       by_cases c44 : t385 = true
       ·subst c44
        have H1 : (if t383.toList = t384.toList then ((skel_Alike.f kj9 a0 a1).bind fun t386 => (if t386 = true then ((portcullislaw08_works.f kj9).bind fun t387 => (some t387)) else (some false))) else ((portcullislaw08_works.f kj9).bind fun t388 => (some t388))) = some r := by rw [if_pos rfl] at H; exact H
        clear H
        have H := H1
        clear H1
        by_cases c45 : t383.toList = t384.toList
        ·rw [if_pos c45] at H
         have c45b0 : (t383.toList == t384.toList) = true := beq_iff_eq.mpr c45
         have c45b1 : (t383.toList != t384.toList) = false := bne_eq_false_iff_eq.mpr c45
         clear c45
         replace H := Option.bind_eq_some_iff.mp H
         obtain ⟨t386, A460, H⟩ := H
         replace H : (if t386 = true then ((portcullislaw08_works.f kj9).bind fun t387 => (some t387)) else (some false)) = some r := H
         have A46 := Aside0.mk A460
         clear A460
         by_cases c47 : t386 = true
         ·subst c47
          have H1 : ((portcullislaw08_works.f kj9).bind fun t387 => (some t387)) = some r := by rw [if_pos rfl] at H; exact H
          clear H
          have H := H1
          clear H1
          replace H := Option.bind_eq_some_iff.mp H
          obtain ⟨t387, A480, H⟩ := H
          replace H : (some t387) = some r := H
          have A48 := Aside0.mk A480
          clear A480
          obtain rfl := Option.some.inj H
          go_wp2_with (first | ((with_reducible refine gate_callee (f := 11) rfl ?_); refine goesL_ (some 54) rfl rfl Tryd.func11 (by kernel_rfl) rfl #[.string a0] rfl (by (try simp only [List.map_toArray, List.map_cons, List.map_nil]); first | done | rfl | (simp only [List.length_drop, List.length_take]; rfl)) ?_; (with_reducible refine (portcullisref04_Text.calls kj9 a0 t383 _ A40.out).mono ?_); rintro e w49 ⟨rfl, hb⟩; refine ⟨_, rfl, ?_⟩; have n0_ := Aside0.mk (below_step (by repeat (first | (with_reducible first | exact HB.out | apply below_alloc | apply pw_below_drewN | apply below_drew1) | exact HB.out)) hb); clear HB; have HB := n0_; clear n0_; (try clear hb); (try clear hb2); (try clear hk); (try clear hi)) | ((with_reducible refine gate_callee (f := 11) rfl ?_); refine goesL_ (some 56) rfl rfl Tryd.func11 (by kernel_rfl) rfl #[.string a1] rfl (by (try simp only [List.map_toArray, List.map_cons, List.map_nil]); first | done | rfl | (simp only [List.length_drop, List.length_take]; rfl)) ?_; (with_reducible refine (portcullisref04_Text.calls kj9 a1 t384 _ A41.out).mono ?_); rintro e w50 ⟨rfl, hb⟩; refine ⟨_, rfl, ?_⟩; have n0_ := Aside0.mk (below_step (by repeat (first | (with_reducible first | exact HB.out | apply below_alloc | apply pw_below_drewN | apply below_drew1) | exact HB.out)) hb); clear HB; have HB := n0_; clear n0_; (try clear hb); (try clear hb2); (try clear hk); (try clear hi)) | (go_at_call 10; (with_reducible refine (skel_Alike.calls kj9 a0 t383 true _ A43.out (WG.keep HG.out (by repeat (first | (with_reducible first | exact HB.out | apply below_alloc | apply pw_below_drewN | apply below_drew1) | exact HB.out)))).mono ?_); rintro e w51 ⟨rfl, hb⟩; have n0_ := Aside0.mk (below_step (by repeat (first | (with_reducible first | exact HB.out | apply below_alloc | apply pw_below_drewN | apply below_drew1) | exact HB.out)) hb); clear HB; have HB := n0_; clear n0_; (try clear hb); (try clear hb2); (try clear hk); (try clear hi)) | (go_at_call 10; (with_reducible refine (skel_Alike.calls kj9 a0 a1 true _ A46.out (WG.keep HG.out (by repeat (first | (with_reducible first | exact HB.out | apply below_alloc | apply pw_below_drewN | apply below_drew1) | exact HB.out)))).mono ?_); rintro e w52 ⟨rfl, hb⟩; have n0_ := Aside0.mk (below_step (by repeat (first | (with_reducible first | exact HB.out | apply below_alloc | apply pw_below_drewN | apply below_drew1) | exact HB.out)) hb); clear HB; have HB := n0_; clear n0_; (try clear hb); (try clear hb2); (try clear hk); (try clear hi)) | (go_at_call 8; (with_reducible refine (portcullislaw08_works.calls kj9  t387 _ A48.out (WG.keep HG.out (by repeat (first | (with_reducible first | exact HB.out | apply below_alloc | apply pw_below_drewN | apply below_drew1) | exact HB.out)))).mono ?_); rintro e w53 ⟨rfl, hb⟩; have n0_ := Aside0.mk (below_step (by repeat (first | (with_reducible first | exact HB.out | apply below_alloc | apply pw_below_drewN | apply below_drew1) | exact HB.out)) hb); clear HB; have HB := n0_; clear n0_; (try clear hb); (try clear hb2); (try clear hk); (try clear hi)))
          go_ret
          exact ⟨by first | rfl | (simp [errW_none, errW_some] <;> rfl) | (simp [*, errW_none, errW_some] <;> rfl), by repeat (first | (with_reducible first | exact HB.out | apply below_alloc | apply pw_below_drewN | apply below_drew1) | exact HB.out)⟩
         ·replace c47 := Bool.eq_false_iff.mpr c47
          subst c47
          have H1 : (some false) = some r := by rw [if_neg (show ¬ (false = true) by decide)] at H; exact H
          clear H
          have H := H1
          clear H1
          obtain rfl := Option.some.inj H
          go_wp2_with (first | ((with_reducible refine gate_callee (f := 11) rfl ?_); refine goesL_ (some 54) rfl rfl Tryd.func11 (by kernel_rfl) rfl #[.string a0] rfl (by (try simp only [List.map_toArray, List.map_cons, List.map_nil]); first | done | rfl | (simp only [List.length_drop, List.length_take]; rfl)) ?_; (with_reducible refine (portcullisref04_Text.calls kj9 a0 t383 _ A40.out).mono ?_); rintro e w54 ⟨rfl, hb⟩; refine ⟨_, rfl, ?_⟩; have n0_ := Aside0.mk (below_step (by repeat (first | (with_reducible first | exact HB.out | apply below_alloc | apply pw_below_drewN | apply below_drew1) | exact HB.out)) hb); clear HB; have HB := n0_; clear n0_; (try clear hb); (try clear hb2); (try clear hk); (try clear hi)) | ((with_reducible refine gate_callee (f := 11) rfl ?_); refine goesL_ (some 56) rfl rfl Tryd.func11 (by kernel_rfl) rfl #[.string a1] rfl (by (try simp only [List.map_toArray, List.map_cons, List.map_nil]); first | done | rfl | (simp only [List.length_drop, List.length_take]; rfl)) ?_; (with_reducible refine (portcullisref04_Text.calls kj9 a1 t384 _ A41.out).mono ?_); rintro e w55 ⟨rfl, hb⟩; refine ⟨_, rfl, ?_⟩; have n0_ := Aside0.mk (below_step (by repeat (first | (with_reducible first | exact HB.out | apply below_alloc | apply pw_below_drewN | apply below_drew1) | exact HB.out)) hb); clear HB; have HB := n0_; clear n0_; (try clear hb); (try clear hb2); (try clear hk); (try clear hi)) | (go_at_call 10; (with_reducible refine (skel_Alike.calls kj9 a0 t383 true _ A43.out (WG.keep HG.out (by repeat (first | (with_reducible first | exact HB.out | apply below_alloc | apply pw_below_drewN | apply below_drew1) | exact HB.out)))).mono ?_); rintro e w56 ⟨rfl, hb⟩; have n0_ := Aside0.mk (below_step (by repeat (first | (with_reducible first | exact HB.out | apply below_alloc | apply pw_below_drewN | apply below_drew1) | exact HB.out)) hb); clear HB; have HB := n0_; clear n0_; (try clear hb); (try clear hb2); (try clear hk); (try clear hi)) | (go_at_call 10; (with_reducible refine (skel_Alike.calls kj9 a0 a1 false _ A46.out (WG.keep HG.out (by repeat (first | (with_reducible first | exact HB.out | apply below_alloc | apply pw_below_drewN | apply below_drew1) | exact HB.out)))).mono ?_); rintro e w57 ⟨rfl, hb⟩; have n0_ := Aside0.mk (below_step (by repeat (first | (with_reducible first | exact HB.out | apply below_alloc | apply pw_below_drewN | apply below_drew1) | exact HB.out)) hb); clear HB; have HB := n0_; clear n0_; (try clear hb); (try clear hb2); (try clear hk); (try clear hi)))
          go_ret
          exact ⟨by first | rfl | (simp [errW_none, errW_some] <;> rfl) | (simp [*, errW_none, errW_some] <;> rfl), by repeat (first | (with_reducible first | exact HB.out | apply below_alloc | apply pw_below_drewN | apply below_drew1) | exact HB.out)⟩
        ·rw [if_neg c45] at H
         have c45b0 : (t383.toList == t384.toList) = false := beq_eq_false_iff_ne.mpr c45
         have c45b1 : (t383.toList != t384.toList) = true := bne_iff_ne.mpr c45
         replace H := Option.bind_eq_some_iff.mp H
         obtain ⟨t388, A580, H⟩ := H
         replace H : (some t388) = some r := H
         have A58 := Aside0.mk A580
         clear A580
         obtain rfl := Option.some.inj H
         go_wp2_with (first | ((with_reducible refine gate_callee (f := 11) rfl ?_); refine goesL_ (some 54) rfl rfl Tryd.func11 (by kernel_rfl) rfl #[.string a0] rfl (by (try simp only [List.map_toArray, List.map_cons, List.map_nil]); first | done | rfl | (simp only [List.length_drop, List.length_take]; rfl)) ?_; (with_reducible refine (portcullisref04_Text.calls kj9 a0 t383 _ A40.out).mono ?_); rintro e w59 ⟨rfl, hb⟩; refine ⟨_, rfl, ?_⟩; have n0_ := Aside0.mk (below_step (by repeat (first | (with_reducible first | exact HB.out | apply below_alloc | apply pw_below_drewN | apply below_drew1) | exact HB.out)) hb); clear HB; have HB := n0_; clear n0_; (try clear hb); (try clear hb2); (try clear hk); (try clear hi)) | ((with_reducible refine gate_callee (f := 11) rfl ?_); refine goesL_ (some 56) rfl rfl Tryd.func11 (by kernel_rfl) rfl #[.string a1] rfl (by (try simp only [List.map_toArray, List.map_cons, List.map_nil]); first | done | rfl | (simp only [List.length_drop, List.length_take]; rfl)) ?_; (with_reducible refine (portcullisref04_Text.calls kj9 a1 t384 _ A41.out).mono ?_); rintro e w60 ⟨rfl, hb⟩; refine ⟨_, rfl, ?_⟩; have n0_ := Aside0.mk (below_step (by repeat (first | (with_reducible first | exact HB.out | apply below_alloc | apply pw_below_drewN | apply below_drew1) | exact HB.out)) hb); clear HB; have HB := n0_; clear n0_; (try clear hb); (try clear hb2); (try clear hk); (try clear hi)) | (go_at_call 10; (with_reducible refine (skel_Alike.calls kj9 a0 t383 true _ A43.out (WG.keep HG.out (by repeat (first | (with_reducible first | exact HB.out | apply below_alloc | apply pw_below_drewN | apply below_drew1) | exact HB.out)))).mono ?_); rintro e w61 ⟨rfl, hb⟩; have n0_ := Aside0.mk (below_step (by repeat (first | (with_reducible first | exact HB.out | apply below_alloc | apply pw_below_drewN | apply below_drew1) | exact HB.out)) hb); clear HB; have HB := n0_; clear n0_; (try clear hb); (try clear hb2); (try clear hk); (try clear hi)) | (go_at_call 8; (with_reducible refine (portcullislaw08_works.calls kj9  t388 _ A58.out (WG.keep HG.out (by repeat (first | (with_reducible first | exact HB.out | apply below_alloc | apply pw_below_drewN | apply below_drew1) | exact HB.out)))).mono ?_); rintro e w62 ⟨rfl, hb⟩; have n0_ := Aside0.mk (below_step (by repeat (first | (with_reducible first | exact HB.out | apply below_alloc | apply pw_below_drewN | apply below_drew1) | exact HB.out)) hb); clear HB; have HB := n0_; clear n0_; (try clear hb); (try clear hb2); (try clear hk); (try clear hi)))
         go_ret
         exact ⟨by first | rfl | (simp [errW_none, errW_some] <;> rfl) | (simp [*, errW_none, errW_some] <;> rfl), by repeat (first | (with_reducible first | exact HB.out | apply below_alloc | apply pw_below_drewN | apply below_drew1) | exact HB.out)⟩
       ·replace c44 := Bool.eq_false_iff.mpr c44
        subst c44
        have H1 : (some false) = some r := by rw [if_neg (show ¬ (false = true) by decide)] at H; exact H
        clear H
        have H := H1
        clear H1
        obtain rfl := Option.some.inj H
        go_wp2_with (first | ((with_reducible refine gate_callee (f := 11) rfl ?_); refine goesL_ (some 54) rfl rfl Tryd.func11 (by kernel_rfl) rfl #[.string a0] rfl (by (try simp only [List.map_toArray, List.map_cons, List.map_nil]); first | done | rfl | (simp only [List.length_drop, List.length_take]; rfl)) ?_; (with_reducible refine (portcullisref04_Text.calls kj9 a0 t383 _ A40.out).mono ?_); rintro e w63 ⟨rfl, hb⟩; refine ⟨_, rfl, ?_⟩; have n0_ := Aside0.mk (below_step (by repeat (first | (with_reducible first | exact HB.out | apply below_alloc | apply pw_below_drewN | apply below_drew1) | exact HB.out)) hb); clear HB; have HB := n0_; clear n0_; (try clear hb); (try clear hb2); (try clear hk); (try clear hi)) | ((with_reducible refine gate_callee (f := 11) rfl ?_); refine goesL_ (some 56) rfl rfl Tryd.func11 (by kernel_rfl) rfl #[.string a1] rfl (by (try simp only [List.map_toArray, List.map_cons, List.map_nil]); first | done | rfl | (simp only [List.length_drop, List.length_take]; rfl)) ?_; (with_reducible refine (portcullisref04_Text.calls kj9 a1 t384 _ A41.out).mono ?_); rintro e w64 ⟨rfl, hb⟩; refine ⟨_, rfl, ?_⟩; have n0_ := Aside0.mk (below_step (by repeat (first | (with_reducible first | exact HB.out | apply below_alloc | apply pw_below_drewN | apply below_drew1) | exact HB.out)) hb); clear HB; have HB := n0_; clear n0_; (try clear hb); (try clear hb2); (try clear hk); (try clear hi)) | (go_at_call 10; (with_reducible refine (skel_Alike.calls kj9 a0 t383 false _ A43.out (WG.keep HG.out (by repeat (first | (with_reducible first | exact HB.out | apply below_alloc | apply pw_below_drewN | apply below_drew1) | exact HB.out)))).mono ?_); rintro e w65 ⟨rfl, hb⟩; have n0_ := Aside0.mk (below_step (by repeat (first | (with_reducible first | exact HB.out | apply below_alloc | apply pw_below_drewN | apply below_drew1) | exact HB.out)) hb); clear HB; have HB := n0_; clear n0_; (try clear hb); (try clear hb2); (try clear hk); (try clear hi)))
        go_ret
        exact ⟨by first | rfl | (simp [errW_none, errW_some] <;> rfl) | (simp [*, errW_none, errW_some] <;> rfl), by repeat (first | (with_reducible first | exact HB.out | apply below_alloc | apply pw_below_drewN | apply below_drew1) | exact HB.out)⟩
      ·replace c42 := Bool.eq_false_iff.mpr c42
       subst c42
       have H1 : (some false) = some r := by rw [if_neg (show ¬ (false = true) by decide)] at H; exact H
       clear H
       have H := H1
       clear H1
       obtain rfl := Option.some.inj H
       go_wp2_with (first | ((with_reducible refine gate_callee (f := 11) rfl ?_); refine goesL_ (some 54) rfl rfl Tryd.func11 (by kernel_rfl) rfl #[.string a0] rfl (by (try simp only [List.map_toArray, List.map_cons, List.map_nil]); first | done | rfl | (simp only [List.length_drop, List.length_take]; rfl)) ?_; (with_reducible refine (portcullisref04_Text.calls kj9 a0 t383 _ A40.out).mono ?_); rintro e w66 ⟨rfl, hb⟩; refine ⟨_, rfl, ?_⟩; have n0_ := Aside0.mk (below_step (by repeat (first | (with_reducible first | exact HB.out | apply below_alloc | apply pw_below_drewN | apply below_drew1) | exact HB.out)) hb); clear HB; have HB := n0_; clear n0_; (try clear hb); (try clear hb2); (try clear hk); (try clear hi)) | ((with_reducible refine gate_callee (f := 11) rfl ?_); refine goesL_ (some 56) rfl rfl Tryd.func11 (by kernel_rfl) rfl #[.string a1] rfl (by (try simp only [List.map_toArray, List.map_cons, List.map_nil]); first | done | rfl | (simp only [List.length_drop, List.length_take]; rfl)) ?_; (with_reducible refine (portcullisref04_Text.calls kj9 a1 t384 _ A41.out).mono ?_); rintro e w67 ⟨rfl, hb⟩; refine ⟨_, rfl, ?_⟩; have n0_ := Aside0.mk (below_step (by repeat (first | (with_reducible first | exact HB.out | apply below_alloc | apply pw_below_drewN | apply below_drew1) | exact HB.out)) hb); clear HB; have HB := n0_; clear n0_; (try clear hb); (try clear hb2); (try clear hk); (try clear hi)))
       go_ret
       exact ⟨by first | rfl | (simp [errW_none, errW_some] <;> rfl) | (simp [*, errW_none, errW_some] <;> rfl), by repeat (first | (with_reducible first | exact HB.out | apply below_alloc | apply pw_below_drewN | apply below_drew1) | exact HB.out)⟩

/-- THE ONE PURE STATEMENT of portcullislaw08_SkelAlike: yours. -/
def portcullislaw08_SkelAlike.Pure : Prop := ∀ (a0 : ByteArray) (a1 : ByteArray) (a2 : ByteArray), a0.size ≤ 140737488351232 → a1.size ≤ 140737488351232 → a2.size ≤ 140737488351232 → ∃ k, portcullislaw08_SkelAlike.f k a0 a1 a2 = some true
theorem portcullislaw08_SkelAlike.walk (P : portcullislaw08_SkelAlike.Pure) (a0 : ByteArray) (a1 : ByteArray) (a2 : ByteArray) (w : World) (w0 : a0.size ≤ 140737488351232) (w1 : a1.size ≤ 140737488351232) (w2 : a2.size ≤ 140737488351232) (hG : WG w) :
  Calls Tryd.prog 4 #[.string a0, .string a1, .string a2] w fun e w' => e = .returned (.bool true) ∧ Below w.heap.size w w' := by
 have HG := Aside0.mk hG
 have HB := Aside0.mk (Below.refl w.heap.size w)
 clear hG
 obtain ⟨k, h⟩ := P a0 a1 a2 w0 w1 w2
 refine (portcullislaw08_SkelAlike.calls k a0 a1 a2 true w h (WG.keep HG.out (by repeat (first | (with_reducible first | exact HB.out | apply below_alloc | apply pw_below_drewN | apply below_drew1) | exact HB.out)))).mono ?_
 rintro e w' ⟨rfl, hd⟩
 exact ⟨rfl, hd⟩

end Go.Proofs.YtncbbgmhmofhnaaDoor.Pr
end

section
namespace Go.Proofs.YtncbbgmhmofhnaaDoor.Pr
open Go.RowKit Go.Proofs.YtncbbgmhmofhnaaDoorW.PrintWords Go.Proofs.YtncbbgmhmofhnaaDoorW.PrintLast Go.Proofs.YtncbbgmhmofhnaaDoorW.PrintMore
set_option linter.unusedVariables false
set_option linter.unusedSimpArgs false

def mkB (l : List UInt8) : ByteArray := ⟨l.toArray⟩
theorem mkB_data (s : ByteArray) : mkB s.data.toList = s := by cases s; simp [mkB]
theorem data_mkB (l : List UInt8) : (mkB l).data.toList = l := by simp [mkB]
theorem mkB_size (l : List UInt8) : (mkB l).size = l.length := by rw [← data_length, data_mkB]
end Go.Proofs.YtncbbgmhmofhnaaDoor.Pr
end

section
namespace Go.Proofs.YtncbbgmhmofhnaaDoor.Pr
set_option linter.unusedVariables false
set_option linter.unusedSimpArgs false

def prU (a b : Int) : Int × Bool := ((ofP fun x => x.f1 == a && x.f2 == b).1.f0, (ofP fun x => x.f1 == a && x.f2 == b).2)
theorem prU_f (a b : Int) : unidata_Pair.f a b = some (prU a b) := rfl
theorem pair_tab : ((uP0 ++ uP1).all fun p => clsU p.f0 == 0 && clsU p.f2 != 0 && decU p.f0 == [p.f1, p.f2]) = true := by decide +kernel
theorem pair_in {a b : Int} (h : (prU a b).2 = true) : clsU (prU a b).1 = 0 ∧ clsU b ≠ 0 ∧ decU (prU a b).1 = [a, b] := by
  unfold prU at h ⊢
  unfold ofP at h ⊢
  cases hf : (uP0 ++ uP1).find? (fun x => x.f1 == a && x.f2 == b) with
  | none => rw [hf] at h; exact absurd h (by decide)
  | some p =>
    have h1 := List.all_eq_true.1 pair_tab p (List.mem_of_find?_eq_some hf)
    have h2 := List.find?_some hf
    simp only [Bool.and_eq_true, beq_iff_eq, bne_iff_ne] at h1 h2
    obtain ⟨rfl, rfl⟩ := h2
    exact ⟨h1.1.1, h1.1.2, h1.2⟩
theorem apart_stable : ∀ (k : Nat) (r : Int), Dep k r → apartK (k + 1) r = apartK k r
  | 0, r, h => by rw [apartK_nil (k := 1) h]; rfl
  | k + 1, r, h => by
    rw [apartK, apartK]
    by_cases e : decU r = []
    · rw [if_pos e, if_pos e]
    · rw [if_neg e, if_neg e]
      have hh : ∀ x ∈ decU r, apartK (k + 1) x = apartK k x := fun x hx => apart_stable k x (h x hx)
      rw [List.flatMap_def, List.flatMap_def, List.map_congr_left hh]
theorem apart_pair {p a b : Int} (h : decU p = [a, b]) : apartK 4 p = apartK 4 a ++ apartK 4 b := by
  have hd := dep4 p
  have ha : Dep 3 a := hd a (by rw [h]; simp)
  have hb : Dep 3 b := hd b (by rw [h]; simp)
  rw [apart_stable 3 a ha, apart_stable 3 b hb]
  show (if decU p = [] then [p] else (decU p).flatMap (apartK 3)) = _
  rw [if_neg (by rw [h]; simp), h]
  simp
theorem apart_fd : ∀ (k : Nat) (r : Int), Dep k r → ∀ y ∈ apartK k r, decU y = []
  | 0, r, h, y, hy => by obtain rfl : y = r := by simpa [apartK] using hy
                         exact h
  | k + 1, r, h, y, hy => by
    rw [apartK] at hy
    by_cases e : decU r = []
    · rw [if_pos e] at hy
      obtain rfl := List.mem_singleton.1 hy
      exact e
    · rw [if_neg e] at hy
      obtain ⟨x, hx, hxy⟩ := List.mem_flatMap.1 hy
      exact apart_fd k x (h x hx) y hxy
def Fd (l : List Int) : Prop := ∀ y ∈ l, decU y = []
theorem apL_fd (l : List Int) : Fd (apL l) := fun y hy => by
  obtain ⟨x, hx, hxy⟩ := List.mem_flatMap.1 hy
  exact apart_fd 4 x (dep4 x) y hxy
theorem apL_self : ∀ {l : List Int}, Fd l → apL l = l
  | [], _ => rfl
  | x :: l, h => by
    have h1 := apL_self (l := l) (fun y hy => h y (List.mem_cons_of_mem _ hy))
    show apartK 4 x ++ apL l = _
    rw [apartK_nil (h x List.mem_cons_self), h1]
    rfl
theorem ord_fd {l : List Int} (h : Fd l) : Fd (ordM clsU l) := fun y hy => h y ((ordM_perm clsU l).mem_iff.1 hy)
theorem ordM_idem (l : List Int) : ordM clsU (ordM clsU l) = ordM clsU l := by
  refine ordM_srt clsU _ ?_
  unfold ordM
  rw [List.reverse_reverse]
  exact ordR_is_srt clsU clsU_pos l [] trivial
theorem ordM_isSrt (l : List Int) : SrtR clsU (ordM clsU l).reverse := by
  unfold ordM
  rw [List.reverse_reverse]
  exact ordR_is_srt clsU clsU_pos l [] trivial
theorem ordM_len (l : List Int) : (ordM clsU l).length = l.length := (ordM_perm clsU l).length_eq

def cpsU : List Int → List Int → Option Int → List Int → Int → List Int
  | [], done, none, seg, _ => done ++ seg
  | [], done, some s, seg, _ => done ++ s :: seg
  | r :: t, done, some s, seg, last => if (seg = [] ∨ (last ≠ 0 ∧ last < clsU r)) ∧ (prU s r).2 = true then cpsU t done (some (prU s r).1) seg last
      else if clsU r = 0 then cpsU t (done ++ s :: seg) (some r) [] 0 else cpsU t done (some s) (seg ++ [r]) (clsU r)
  | r :: t, done, none, seg, last => if clsU r = 0 then cpsU t (done ++ seg) (some r) [] 0 else cpsU t done none (seg ++ [r]) (clsU r)
/-- prev: the class of what stood ahead. -/
def OkL : Int → List Int → Prop
  | _, [] => True
  | p, r :: t => (clsU r = 0 ∨ p ≤ clsU r) ∧ OkL (clsU r) t
theorem okL_of : ∀ (d acc : List Int), SrtR clsU (d.reverse ++ acc) → OkL (match acc with | [] => 0 | x :: _ => clsU x) d
  | [], _, _ => trivial
  | r :: t, acc, h => by
    have e : (r :: t).reverse ++ acc = t.reverse ++ (r :: acc) := by simp
    rw [e] at h
    refine ⟨?_, okL_of t (r :: acc) h⟩
    have h2 : SrtR clsU (r :: acc) := srt_tail clsU t.reverse _ h
    cases acc with
    | nil => exact .inr (clsU_pos r)
    | cons x acc =>
      have := h2.1
      unfold okN at this
      show clsU r = 0 ∨ clsU x ≤ clsU r
      omega
def whole (done : List Int) (st : Option Int) (seg rest : List Int) : List Int := done ++ (st.toList ++ (seg ++ rest))
theorem cmp_len : ∀ (rest done : List Int) (st : Option Int) (seg : List Int) (last : Int), (cpsU rest done st seg last).length ≤ (whole done st seg rest).length
  | [], done, none, seg, _ => by simp [cpsU, whole]
  | [], done, some s, seg, _ => by simp [cpsU, whole]
  | r :: t, done, some s, seg, last => by
    rw [cpsU]
    split
    · have := cmp_len t done (some (prU s r).1) seg last
      simp only [whole, List.length_append, Option.toList_some, List.length_cons, List.length_nil] at this ⊢
      omega
    · split
      · have := cmp_len t (done ++ s :: seg) (some r) [] 0
        simp only [whole, List.length_append, Option.toList_some, List.length_cons, List.length_nil] at this ⊢
        omega
      · have := cmp_len t done (some s) (seg ++ [r]) (clsU r)
        simp only [whole, List.length_append, Option.toList_some, List.length_cons, List.length_nil] at this ⊢
        omega
  | r :: t, done, none, seg, last => by
    rw [cpsU]
    split
    · have := cmp_len t (done ++ seg) (some r) [] 0
      simp only [whole, List.length_append, Option.toList_some, Option.toList_none, List.length_cons, List.length_nil] at this ⊢
      omega
    · have := cmp_len t done none (seg ++ [r]) (clsU r)
      simp only [whole, List.length_append, Option.toList_none, List.length_cons, List.length_nil] at this ⊢
      omega
structure CmpI (seg rest : List Int) (last prev : Int) : Prop where
  fd : Fd (seg ++ rest)
  nz : ∀ y ∈ seg, clsU y ≠ 0
  le : ∀ y ∈ seg, clsU y ≤ last
  lp : last ≤ prev
  ok : OkL prev rest
theorem CmpI.zero {seg t : List Int} {r last prev : Int} (h : CmpI seg (r :: t) last prev) (hz : clsU r = 0) : CmpI [] t 0 0 := by
  have := h.ok.2
  rw [hz] at this
  exact ⟨fun y hy => h.fd y (by simp at hy; simp [hy]), fun y hy => by simp at hy, fun y hy => by simp at hy, Int.le_refl _, this⟩
theorem CmpI.push {seg t : List Int} {r last prev : Int} (h : CmpI seg (r :: t) last prev) (hz : clsU r ≠ 0) : CmpI (seg ++ [r]) t (clsU r) (clsU r) := by
  have h1 : prev ≤ clsU r := h.ok.1.resolve_left hz
  refine ⟨fun y hy => h.fd y (by simpa using hy), fun y hy => ?_, fun y hy => ?_, Int.le_refl _, h.ok.2⟩
  · rcases List.mem_append.1 hy with hy | hy
    · exact h.nz y hy
    · rw [List.mem_singleton.1 hy]; exact hz
  · rcases List.mem_append.1 hy with hy | hy
    · have := h.le y hy; have := h.lp; omega
    · rw [List.mem_singleton.1 hy]; exact Int.le_refl _
theorem CmpI.take {seg t : List Int} {r last prev : Int} (h : CmpI seg (r :: t) last prev) (hz : clsU r ≠ 0) : CmpI seg t last (clsU r) :=
  ⟨fun y hy => h.fd y (by rcases List.mem_append.1 hy with h | h <;> simp [h]), h.nz, h.le, by have := h.ok.1.resolve_left hz; have := h.lp; omega, h.ok.2⟩
theorem apL_cons (x : Int) (l : List Int) : apL (x :: l) = apartK 4 x ++ apL l := rfl
theorem cmp_so : ∀ (rest done : List Int) (st : Option Int) (seg : List Int) (last prev : Int), CmpI seg rest last prev → So (apL (cpsU rest done st seg last)) (apL (whole done st seg rest))
  | [], done, none, seg, last, prev, h => by simp only [cpsU, whole, Option.toList_none, List.nil_append, List.append_nil]; exact So.refl _
  | [], done, some s, seg, last, prev, h => by simp only [cpsU, whole, Option.toList_some, List.append_nil, List.singleton_append]; exact So.refl _
  | r :: t, done, some s, seg, last, prev, h => by
    rw [cpsU]
    split
    · next hc =>
      obtain ⟨hc1, hc2⟩ := hc
      obtain ⟨p0, p1, p2⟩ := pair_in hc2
      refine So.trans (cmp_so t done (some (prU s r).1) seg last _ (h.take p1)) ?_
      have hseg : Fd seg := fun y hy => h.fd y (List.mem_append_left _ hy)
      have hr : decU r = [] := h.fd r (by simp)
      have e1 : apL (whole done (some (prU s r).1) seg t) = (apL done ++ apartK 4 s) ++ (([r] ++ seg) ++ apL t) := by
        simp only [whole, Option.toList_some, apL_append, List.singleton_append, apL_cons, apL_self hseg]
        rw [apart_pair p2, apartK_nil hr]
        simp
      have e2 : apL (whole done (some s) seg (r :: t)) = (apL done ++ apartK 4 s) ++ ((seg ++ [r]) ++ apL t) := by
        simp only [whole, Option.toList_some, apL_append, List.singleton_append, apL_cons, apL_self hseg]
        rw [apartK_nil hr]
        simp
      rw [e1, e2]
      refine So.app (So.rot h.nz (fun a ha b hb => ?_)) _ _
      rw [List.mem_singleton.1 ha]
      rcases hc1 with hc1 | hc1
      · rw [hc1] at hb; simp at hb
      · have := h.le b hb; omega
    · split
      · next hz =>
        have := cmp_so t (done ++ s :: seg) (some r) [] 0 0 (h.zero hz)
        simpa [whole] using this
      · next hz =>
        have := cmp_so t done (some s) (seg ++ [r]) _ _ (h.push hz)
        simpa [whole] using this
  | r :: t, done, none, seg, last, prev, h => by
    rw [cpsU]
    split
    · next hz =>
      have := cmp_so t (done ++ seg) (some r) [] 0 0 (h.zero hz)
      simpa [whole] using this
    · next hz =>
      have := cmp_so t done none (seg ++ [r]) _ _ (h.push hz)
      simpa [whole] using this
/-- A row's normal forms. -/
def nfdU (l : List Int) : List Int := ordM clsU (apL l)
def nfcU (l : List Int) : List Int := cpsU (nfdU l) [] none [] 0
theorem nfd_fd (l : List Int) : Fd (nfdU l) := ord_fd (apL_fd l)
theorem nfd_start (l : List Int) : CmpI [] (nfdU l) 0 0 := ⟨nfd_fd l, fun y hy => by simp at hy, fun y hy => by simp at hy, Int.le_refl _, okL_of (nfdU l) [] (by rw [List.append_nil]; exact ordM_isSrt _)⟩
theorem nfd_nfc (l : List Int) : nfdU (nfcU l) = nfdU l := by
  have h := cmp_so (nfdU l) [] none [] 0 0 (nfd_start l) [] []
  simp only [List.nil_append, List.append_nil, whole, Option.toList_none] at h
  rw [apL_self (nfd_fd l)] at h
  have e : ordM clsU (nfdU l) = nfdU l := ordM_idem _
  rw [e] at h
  exact h
theorem nfc_len (l : List Int) : (nfcU l).length ≤ (nfdU l).length := by
  have := cmp_len (nfdU l) [] none [] 0
  unfold nfcU
  simpa [whole] using this
theorem nfd_len (l : List Int) : (nfdU l).length ≤ 16 * l.length := by
  have := apL_len l
  unfold nfdU
  rw [ordM_len]; exact this

end Go.Proofs.YtncbbgmhmofhnaaDoor.Pr
end

section
namespace Go.Proofs.YtncbbgmhmofhnaaDoor.Pr
open Go.RowKit Go.Proofs.YtncbbgmhmofhnaaDoorW.PrintWords Go.Proofs.YtncbbgmhmofhnaaDoorW.PrintLast Go.Proofs.YtncbbgmhmofhnaaDoorW.PrintMore
set_option linter.unusedVariables false
set_option linter.unusedSimpArgs false

def Ev {α : Type} (f : Nat → Option α) (r : α) : Prop := ∃ K, ∀ k, K ≤ k → f k = some r
theorem Ev.step {α : Type} {f g : Nat → Option α} {r : α} (h : ∀ k, g (k + 1) = f k) (hf : Ev f r) : Ev g r := by
  obtain ⟨K, hK⟩ := hf
  refine ⟨K + 1, fun k hk => ?_⟩
  obtain ⟨k, rfl⟩ : ∃ k', k = k' + 1 := ⟨k - 1, by omega⟩
  rw [h]
  exact hK k (by omega)
theorem Ev.one {α : Type} {g : Nat → Option α} {r : α} (h : ∀ k, g (k + 1) = some r) : Ev g r := ⟨1, fun k hk => by
  obtain ⟨k, rfl⟩ : ∃ k', k = k' + 1 := ⟨k - 1, by omega⟩
  exact h k⟩
theorem Ev.bind {α β : Type} {f : Nat → Option α} {F : Nat → α → Option β} {a : α} {r : β} (hf : Ev f a) (hF : Ev (fun k => F k a) r) : Ev (fun k => (f k).bind (F k)) r := by
  obtain ⟨K, hK⟩ := hf
  obtain ⟨M, hM⟩ := hF
  refine ⟨K + M, fun k hk => ?_⟩
  show (f k).bind (F k) = _
  rw [hK k (by omega)]
  exact hM k (by omega)
theorem Ev.of_eq {α : Type} {f g : Nat → Option α} {r : α} (h : ∀ k, f k = g k) (hg : Ev g r) : Ev f r := by
  obtain ⟨K, hK⟩ := hg
  exact ⟨K, fun k hk => by rw [h]; exact hK k hk⟩
theorem Ev.ex {α : Type} {f : Nat → Option α} {r : α} (h : Ev f r) : ∃ k, f k = some r := by
  obtain ⟨K, hK⟩ := h
  exact ⟨K, hK K (Nat.le_refl _)⟩
theorem Ev.now {α : Type} {f : Nat → Option α} {r : α} (h : ∀ k, f k = some r) : Ev f r := ⟨0, fun k _ => h k⟩
theorem w64n (i : Nat) (h : i ≤ 2147483648) : wrap64 ((i : Int) + 1) = ((i + 1 : Nat) : Int) := by
  rw [IntWalk.wrap64_in _ (by omega)]; omega
theorem rd_app (A B : List Int) (x : Int) : rd (A ++ x :: B) (A.length : Int) = x := by
  simp [rd, List.getD]
end Go.Proofs.YtncbbgmhmofhnaaDoor.Pr
end

section
namespace Go.Proofs.YtncbbgmhmofhnaaDoor.Pr
open Go.RowKit Go.Proofs.YtncbbgmhmofhnaaDoorW.PrintWords Go.Proofs.YtncbbgmhmofhnaaDoorW.PrintLast Go.Proofs.YtncbbgmhmofhnaaDoorW.PrintMore
set_option linter.unusedVariables false
set_option linter.unusedSimpArgs false

def outU (done : List Int) (st : Option Int) (seg : List Int) : List Int := done ++ (st.toList ++ seg)
theorem nfd_is (l : List Int) (hl : l.length ≤ 60000) : norm_NFD.f l = some (nfdU l) := by unfold norm_NFD.f; rw [if_pos hl]; rfl
end Go.Proofs.YtncbbgmhmofhnaaDoor.Pr
end

section
namespace Go.Proofs.YtncbbgmhmofhnaaDoor.Pr
open Go.RowKit Go.Proofs.YtncbbgmhmofhnaaDoorW.PrintWords Go.Proofs.YtncbbgmhmofhnaaDoorW.PrintLast Go.Proofs.YtncbbgmhmofhnaaDoorW.PrintMore
set_option linter.unusedVariables false
set_option linter.unusedSimpArgs false

def uAll : List S88 := uT0 ++ uT1 ++ uT2
def rAll : List S52 := rT0 ++ rT1 ++ rT2
def toU (x : S52) : S88 := ⟨x.f0, x.f1, x.f2, x.f6, x.f7, x.f8, x.f10, x.f9⟩
theorem toU_all : rAll.map toU = uAll := by kernel_rfl
def inR (r : Int) (x : S52) : Bool := decide (x.f0 ≤ r) && decide (r ≤ x.f1)
def findR (r : Int) : S52 := (rAll.find? (inR r)).getD z52
theorem findR_U (r : Int) : toU (findR r) = findU r := by
  unfold findR
  have h : findU r = ((rAll.map toU).find? (inU r)).getD z88 := by rw [toU_all]; rfl
  rw [h, List.find?_map, show inU r ∘ toU = inR r from rfl]
  cases rAll.find? (inR r) with
  | none => rfl
  | some x => rfl
def rPs : List S86 := rP0 ++ rP1
def toP (x : S86) : S91 := ⟨x.f0, x.f1, x.f2⟩
theorem toP_all : rPs.map toP = uP0 ++ uP1 := by kernel_rfl
theorem wrap_next (i : Nat) (h : i ≤ 1000000) : wrap64 ((i : Int) + 1) = ((i + 1 : Nat) : Int) := by unfold wrap64; omega

def tupR (x : S52) : Int × Int × Int × Int × Int × Int × Int × Int × Int × Bool × Int := (x.f0, x.f1, x.f2, x.f3, x.f4, x.f5, x.f6, x.f7, x.f8, x.f9, x.f10)
theorem find_l0 (k : Nat) (r : Int) (l : List S52) (hl : l.length ≤ 1000) : ∀ d i : Nat, i + d = l.length → portcullisref03_Find.l0 (k + d + 1) r l (i : Int) = some (tupR (((l.drop i).find? (inR r)).getD z52))
  | 0, i, h => by
    unfold portcullisref03_Find.l0
    rw [if_neg (by omega), List.drop_of_length_le (by omega)]
    rfl
  | d + 1, i, h => by
    have hi : i < l.length := by omega
    have ih := find_l0 k r l hl d (i + 1) (by omega)
    have hx : rd_T52 l (i : Int) = l[i] := by unfold rd_T52; simp [hi]
    rw [show k + (d + 1) + 1 = (k + d + 1) + 1 from rfl]
    unfold portcullisref03_Find.l0
    rw [if_pos (by omega), if_pos (by omega), hx, wrap_next i (by omega), ih, List.drop_eq_getElem_cons hi, List.find?_cons]
    by_cases h1 : l[i].f0 ≤ r
    · rw [if_pos h1]
      by_cases h2 : r ≤ l[i].f1
      · rw [if_pos h2, show inR r l[i] = true by unfold inR; simp [h1, h2]]; rfl
      · rw [if_neg h2, show inR r l[i] = false by unfold inR; simp [h2]]
    · rw [if_neg h1, show inR r l[i] = false by unfold inR; simp [h1]]
theorem rows_eq : portcullisref03_Rows.f = some rAll := by kernel_rfl
theorem refFind_eq (k : Nat) (r : Int) : portcullisref03_Find.f (k + 100) r = some (tupR (findR r)) := by
  unfold portcullisref03_Find.f
  rw [rows_eq, Option.bind_some]
  exact find_l0 (k + 11) r rAll (by decide) 88 0 (by decide)
theorem pair_l0 (k : Nat) (a b : Int) (l : List S86) (hl : l.length ≤ 1000) : ∀ d i : Nat, i + d = l.length → portcullisref03_Pair.l0 (k + d + 1) a b l (i : Int) = some (match (l.drop i).find? (fun x => x.f1 == a && x.f2 == b) with | some x => (x.f0, true) | none => (0, false))
  | 0, i, h => by
    unfold portcullisref03_Pair.l0
    rw [if_neg (by omega), List.drop_of_length_le (by omega)]
    rfl
  | d + 1, i, h => by
    have hi : i < l.length := by omega
    have ih := pair_l0 k a b l hl d (i + 1) (by omega)
    have hx : rd_T86 l (i : Int) = l[i] := by unfold rd_T86; simp [hi]
    rw [show k + (d + 1) + 1 = (k + d + 1) + 1 from rfl]
    unfold portcullisref03_Pair.l0
    rw [if_pos (by omega), if_pos (by omega), hx, wrap_next i (by omega), ih, List.drop_eq_getElem_cons hi, List.find?_cons]
    by_cases h1 : l[i].f1 = a
    · rw [if_pos h1]
      by_cases h2 : l[i].f2 = b
      · rw [if_pos h2, show (l[i].f1 == a && l[i].f2 == b) = true by simp [h1, h2]]
      · rw [if_neg h2, show (l[i].f1 == a && l[i].f2 == b) = false by simp [h2]]
    · rw [if_neg h1, show (l[i].f1 == a && l[i].f2 == b) = false by simp [h1]]
theorem pairs_eq : portcullisref03_Pairs.f = some rPs := by kernel_rfl
theorem refPair_eq (k : Nat) (a b : Int) : portcullisref03_Pair.f (k + 100) a b = unidata_Pair.f a b := by
  unfold portcullisref03_Pair.f unidata_Pair.f
  rw [pairs_eq, Option.bind_some]
  rw [show k + 100 = (k + 19) + 80 + 1 from rfl]
  have h := pair_l0 (k + 19) a b rPs (by decide) 80 0 (by decide)
  rw [List.drop_zero] at h
  refine h.trans ?_
  unfold ofP
  rw [← toP_all, List.find?_map, show (fun x : S91 => x.f1 == a && x.f2 == b) ∘ toP = (fun x => x.f1 == a && x.f2 == b) from rfl]
  cases rPs.find? (fun x => x.f1 == a && x.f2 == b) with
  | none => rfl
  | some x => rfl
def lits (r : Int) : List Int := if r = 8486 then [937] else if r = 8490 then [75] else if r = 8491 then [197] else []
theorem decomp_l0 (k : Nat) (a : Int) (l : List S86) (hl : l.length ≤ 1000) : ∀ d i : Nat, i + d = l.length → portcullisref03_Decomp.l0 (k + d + 1) a l (i : Int) = some (match (l.drop i).find? (fun x => x.f0 == a) with | some x => [x.f1, x.f2] | none => lits a)
  | 0, i, h => by
    unfold portcullisref03_Decomp.l0 lits
    rw [if_neg (by omega), List.drop_of_length_le (by omega)]
    simp only [List.find?_nil]
    split
    · rfl
    split
    · rfl
    split
    · rfl
    rfl
  | d + 1, i, h => by
    have hi : i < l.length := by omega
    have ih := decomp_l0 k a l hl d (i + 1) (by omega)
    have hx : rd_T86 l (i : Int) = l[i] := by unfold rd_T86; simp [hi]
    rw [show k + (d + 1) + 1 = (k + d + 1) + 1 from rfl]
    unfold portcullisref03_Decomp.l0
    rw [if_pos (by omega), if_pos (by omega), hx, wrap_next i (by omega), ih, List.drop_eq_getElem_cons hi, List.find?_cons]
    by_cases h1 : l[i].f0 = a
    · rw [if_pos h1, show (l[i].f0 == a) = true by simp [h1]]
    · rw [if_neg h1, show (l[i].f0 == a) = false by simp [h1]]
theorem no_lits : ((uP0 ++ uP1).all fun x => x.f0 != 8486 && x.f0 != 8490 && x.f0 != 8491) = true := by decide +kernel
theorem refDecomp_eq (k : Nat) (a : Int) : portcullisref03_Decomp.f (k + 100) a = unidata_Decomp.f a := by
  unfold portcullisref03_Decomp.f unidata_Decomp.f
  rw [pairs_eq, Option.bind_some]
  rw [show k + 100 = (k + 19) + 80 + 1 from rfl]
  have h := decomp_l0 (k + 19) a rPs (by decide) 80 0 (by decide)
  rw [List.drop_zero] at h
  refine h.trans ?_
  unfold ofP lits
  rw [← toP_all, List.find?_map, show (fun x : S91 => x.f0 == a) ∘ toP = (fun x => x.f0 == a) from rfl]
  cases hf : rPs.find? (fun x => x.f0 == a) with
  | none => simp
  | some x =>
    have h0 : x.f0 = a := by simpa using List.find?_some hf
    have h1 := List.all_eq_true.1 no_lits (toP x) (by rw [← toP_all]; exact List.mem_map_of_mem (List.mem_of_find?_eq_some hf))
    simp [toP, h0, and_assoc] at h1
    simp [h1.1, h1.2.1, h1.2.2, toP]
end Go.Proofs.YtncbbgmhmofhnaaDoor.Pr
end

section
namespace Go.Proofs.YtncbbgmhmofhnaaDoor.Pr
open Go.RowKit Go.Proofs.YtncbbgmhmofhnaaDoorW.PrintWords Go.Proofs.YtncbbgmhmofhnaaDoorW.PrintLast Go.Proofs.YtncbbgmhmofhnaaDoorW.PrintMore
set_option linter.unusedVariables false
set_option linter.unusedSimpArgs false

theorem Ev.stepG {α : Type} {f g : Nat → Option α} {r : α} (K0 : Nat) (h : ∀ k, K0 ≤ k → g (k + 1) = f k) (hf : Ev f r) : Ev g r := by
  obtain ⟨K, hK⟩ := hf
  refine ⟨K + K0 + 1, fun k hk => ?_⟩
  obtain ⟨k, rfl⟩ : ∃ k', k = k' + 1 := ⟨k - 1, by omega⟩
  rw [h k (by omega)]
  exact hK k (by omega)
theorem class_R (r : Int) : (findR r).f8 = clsU r := by
  have := findR_U r
  unfold clsU
  rw [← this]
  rfl
theorem refClass_eq (k : Nat) (hk : 100 ≤ k) (r : Int) : portcullisref04_class.f k r = some (clsU r) := by
  obtain ⟨k, rfl⟩ : ∃ k', k = k' + 100 := ⟨k - 100, by omega⟩
  unfold portcullisref04_class.f
  rw [refFind_eq, Option.bind_some]
  show some (findR r).f8 = _
  rw [class_R]
theorem refDec (k : Nat) (hk : 100 ≤ k) (r : Int) : portcullisref03_Decomp.f k r = some (decU r) := by
  obtain ⟨k, rfl⟩ : ∃ k', k = k' + 100 := ⟨k - 100, by omega⟩
  rw [refDecomp_eq, decU_f]
theorem refPr (k : Nat) (hk : 100 ≤ k) (a b : Int) : portcullisref03_Pair.f k a b = some (prU a b) := by
  obtain ⟨k, rfl⟩ : ∃ k', k = k' + 100 := ⟨k - 100, by omega⟩
  rw [refPair_eq, prU_f]

def invU : List Int → Nat
  | [] => 0
  | x :: t => t.countP (fun y => decide (clsU y ≠ 0 ∧ clsU y < clsU x)) + invU t
theorem inv_swap {a b : Int} (h0 : clsU b ≠ 0) (h : clsU b < clsU a) : ∀ P Q : List Int, invU (P ++ a :: b :: Q) = invU (P ++ b :: a :: Q) + 1
  | [], Q => by
    show invU (a :: b :: Q) = invU (b :: a :: Q) + 1
    have c1 : decide (clsU b ≠ 0 ∧ clsU b < clsU a) = true := decide_eq_true ⟨h0, h⟩
    have c2 : decide (clsU a ≠ 0 ∧ clsU a < clsU b) = false := decide_eq_false (by omega)
    simp only [invU, List.countP_cons, c1, c2]
    simp
    omega
  | x :: P, Q => by
    have ih := inv_swap h0 h P Q
    have hp : (P ++ a :: b :: Q).Perm (P ++ b :: a :: Q) := List.Perm.append_left P (List.Perm.swap b a Q)
    show invU (x :: (P ++ a :: b :: Q)) = invU (x :: (P ++ b :: a :: Q)) + 1
    simp only [invU]
    rw [ih, hp.countP_eq]
    omega
theorem order_step (L : List Int) (again : Bool) (p : Int) (k : Nat) (h0 : 1 ≤ p) (h1 : p < (L.length : Int)) (hl : L.length ≤ 1000000) (hk : 100 ≤ k) :
    portcullisref04_Order.l1 (k + 1) L again p =
      if clsU (rd L p) = 0 then portcullisref04_Order.l1 k L again (p + 1) else if clsU (rd L (p - 1)) > clsU (rd L p) then portcullisref04_Order.l1 k ((L.set (p - 1).toNat (rd L p)).set p.toNat (rd L (p - 1))) true (p + 1) else portcullisref04_Order.l1 k L again (p + 1) := by
  have hw1 : wrap64 (p - 1) = p - 1 := IntWalk.wrap64_in _ (by omega)
  have hw2 : wrap64 (p + 1) = p + 1 := IntWalk.wrap64_in _ (by omega)
  rw [portcullisref04_Order.l1, if_pos h1, hw1, if_pos (by omega), if_pos (by omega), refClass_eq k hk, Option.bind_some, if_pos (by omega), refClass_eq k hk, Option.bind_some, hw2]
theorem set_two (x y : Int) (t : List Int) : ∀ pre : List Int, ((pre ++ x :: y :: t).set pre.length y).set (pre.length + 1) x = pre ++ y :: x :: t
  | [] => rfl
  | z :: pre => by
    have := set_two x y t pre
    show z :: (((pre ++ x :: y :: t).set pre.length y).set (pre.length + 1) x) = _
    rw [this]
    rfl
theorem order_pass (n m : Nat) (hm : m ≤ 1000000) (IH : ∀ L, invU L < n → L.length = m → Ev (fun k => portcullisref04_Order.l0 k L true) (ordM clsU L)) :
    ∀ (rest pre : List Int) (x : Int) (again : Bool) (L : List Int), L = pre ++ x :: rest → L.length = m → (again = true → invU L < n) → (again = false → invU L ≤ n ∧ SrtR clsU (x :: pre.reverse)) →
      Ev (fun k => portcullisref04_Order.l1 k L again (((pre ++ [x]).length : Nat) : Int)) (ordM clsU L)
  | [], pre, x, again, L, hL, hlm, ht, hf => by
    have hl : L.length = (pre ++ [x]).length := by rw [hL]
    refine Ev.step (f := fun k => portcullisref04_Order.l0 k L again) (fun k => by rw [portcullisref04_Order.l1, if_neg (by omega)]) ?_
    cases again with
    | true => exact IH L (ht rfl) hlm
    | false =>
      have : ordM clsU L = L := ordM_srt clsU L (by rw [hL]; simpa using (hf rfl).2)
      rw [this]
      exact Ev.one fun k => by rw [portcullisref04_Order.l0, if_neg (by decide)]
  | y :: t, pre, x, again, L, hL, hlm, ht, hf => by
    have hlen : L.length = pre.length + (t.length + 2) := by rw [hL]; simp
    have hpl : (pre ++ [x]).length = pre.length + 1 := by simp
    have hx : rd L (pre.length : Int) = x := by rw [hL]; exact rd_app pre _ x
    have hy : rd L (((pre ++ [x]).length : Nat) : Int) = y := by
      have : L = (pre ++ [x]) ++ y :: t := by rw [hL]; simp
      rw [this]; exact rd_app _ _ y
    have hp1 : (((pre ++ [x]).length : Nat) : Int) - 1 = (pre.length : Int) := by omega
    have hp2 : (((pre ++ [x]).length : Nat) : Int) + 1 = (((pre ++ [x]).length + 1 : Nat) : Int) := by omega
    have hset : ((L.set ((pre.length : Int)).toNat y).set (((pre ++ [x]).length : Nat) : Int).toNat x) = pre ++ y :: x :: t := by
      rw [Int.toNat_natCast, Int.toNat_natCast, hpl, hL]
      exact set_two x y t pre
    have hs : ∀ k, 100 ≤ k → portcullisref04_Order.l1 (k + 1) L again (((pre ++ [x]).length : Nat) : Int) =
        if clsU y = 0 then portcullisref04_Order.l1 k L again (((pre ++ [x]).length + 1 : Nat) : Int) else if clsU x > clsU y then portcullisref04_Order.l1 k (pre ++ y :: x :: t) true (((pre ++ [x]).length + 1 : Nat) : Int) else portcullisref04_Order.l1 k L again (((pre ++ [x]).length + 1 : Nat) : Int) := fun k hk => by
      rw [order_step L again _ k (by omega) (by omega) (by omega) hk, hp1, hp2, hx, hy, hset]
    by_cases c : clsU y ≠ 0 ∧ clsU y < clsU x
    · have e : ordM clsU L = ordM clsU (pre ++ y :: x :: t) := by rw [hL]; exact ordM_swap clsU c.1 c.2 clsU_pos pre t
      have hi : invU (pre ++ y :: x :: t) < n := by
        have h1 := inv_swap c.1 c.2 pre t
        rw [← hL] at h1
        cases again with
        | true => have := ht rfl; omega
        | false => have := (hf rfl).1; omega
      rw [e]
      have h2 := order_pass n m hm IH t (pre ++ [y]) x true (pre ++ y :: x :: t) (by simp) (by rw [← hlm, hL]; simp) (fun _ => hi) (fun h => by cases h)
      refine Ev.stepG 100 (fun k hk => ?_) h2
      rw [hs k hk, if_neg c.1, if_pos c.2]
      simp only [List.length_append, List.length_cons, List.length_nil]
    · have h2 := order_pass n m hm IH t (pre ++ [x]) y again L (by rw [hL]; simp) hlm ht (fun h => ⟨(hf h).1, by
        have h3 := (hf h).2
        rw [List.reverse_append]
        exact ⟨c, h3⟩⟩)
      refine Ev.stepG 100 (fun k hk => ?_) h2
      rw [hs k hk]
      by_cases c0 : clsU y = 0
      · rw [if_pos c0]; simp only [List.length_append, List.length_cons, List.length_nil]
      · rw [if_neg c0, if_neg (by omega)]; simp only [List.length_append, List.length_cons, List.length_nil]
theorem order_l0 : ∀ (n : Nat) (L : List Int), invU L ≤ n → L.length ≤ 1000000 → Ev (fun k => portcullisref04_Order.l0 k L true) (ordM clsU L) := by
  intro n
  induction n using Nat.strongRecOn with
  | _ n ih =>
    intro L hi hl
    cases L with
    | nil =>
      refine Ev.step (f := fun k => portcullisref04_Order.l1 k [] false 1) (fun k => by rw [portcullisref04_Order.l0, if_pos rfl]) ?_
      refine Ev.step (f := fun k => portcullisref04_Order.l0 k [] false) (fun k => by rw [portcullisref04_Order.l1, if_neg (by decide)]) ?_
      exact Ev.one fun k => by rw [portcullisref04_Order.l0, if_neg (by decide)]; rfl
    | cons x t =>
      have h := order_pass n (x :: t).length hl (fun L' h1 h2 => ih (invU L') h1 L' (Nat.le_refl _) (by omega)) t [] x false (x :: t) rfl rfl (fun h => by cases h) (fun _ => ⟨hi, trivial⟩)
      refine Ev.step (fun k => ?_) h
      rw [portcullisref04_Order.l0, if_pos rfl]
      rfl
theorem refOrder_is (l : List Int) (h : l.length ≤ 1000000) : Ev (fun k => portcullisref04_Order.f k l) (ordM clsU l) := by
  refine Ev.of_eq (fun k => ?_) (order_l0 (invU l) l (Nat.le_refl _) h)
  unfold portcullisref04_Order.f
  rw [if_pos (by simp; omega), List.nil_append]

theorem refApart_l0 (j : Nat) (hj : j ≤ 5) (d : List Int) (hd : d.length ≤ 1000000) : ∀ (rest pre acc : List Int), d = pre ++ rest → acc.length + 32 * rest.length ≤ 100000000 → (∀ x ∈ rest, Ev (fun k => portcullisref04_apart.f k x) (apartK j x)) →
    Ev (fun k => portcullisref04_apart.l0 k d acc (pre.length : Int)) (acc ++ rest.flatMap (apartK j))
  | [], pre, acc, h, ha, hx => by
    rw [List.flatMap_nil, List.append_nil]
    exact Ev.one fun k => by rw [portcullisref04_apart.l0, if_neg (by rw [h]; simp)]
  | x :: rest, pre, acc, h, ha, hx => by
    have hr : rd d (pre.length : Int) = x := by rw [h]; exact rd_app pre _ x
    have hl : d.length = pre.length + (rest.length + 1) := by rw [h]; simp
    have hlx := apart_len j x
    have hp2 : 2 ^ j ≤ 2 ^ 5 := Nat.pow_le_pow_right (by omega) hj
    have hw : wrap64 ((pre.length : Int) + 1) = (((pre ++ [x]).length : Nat) : Int) := by rw [w64n _ (by omega)]; simp
    obtain ⟨K, hK⟩ := hx x List.mem_cons_self
    simp only [List.length_cons] at ha
    have ih := refApart_l0 j hj d hd rest (pre ++ [x]) (acc ++ apartK j x) (by rw [h]; simp) (by rw [List.length_append]; omega) (fun y hy => hx y (List.mem_cons_of_mem _ hy))
    rw [List.flatMap_cons, ← List.append_assoc]
    refine Ev.stepG K (fun k hk => ?_) ih
    have e := hK k hk
    simp only at e
    rw [portcullisref04_apart.l0, if_pos (by omega), if_pos (by omega), hr, e, Option.bind_some, if_pos (by omega), hw]
theorem refApart_is : ∀ (j : Nat), j ≤ 5 → ∀ (r : Int), Dep j r → Ev (fun k => portcullisref04_apart.f k r) (apartK j r) := by
  intro j
  induction j with
  | zero =>
    intro hj r h
    refine ⟨101, fun k hk => ?_⟩
    obtain ⟨k, rfl⟩ : ∃ k', k = k' + 1 := ⟨k - 1, by omega⟩
    show portcullisref04_apart.f (k + 1) r = _
    have h' : decU r = [] := h
    rw [portcullisref04_apart.f, refDec k (by omega), Option.bind_some, h', if_pos (by rfl)]
    rfl
  | succ j ih =>
    intro hj r h
    by_cases e : decU r = []
    · refine ⟨101, fun k hk => ?_⟩
      obtain ⟨k, rfl⟩ : ∃ k', k = k' + 1 := ⟨k - 1, by omega⟩
      show portcullisref04_apart.f (k + 1) r = _
      rw [portcullisref04_apart.f, refDec k (by omega), Option.bind_some, e, if_pos (by rfl), apartK_nil e]
    · have hl := decU_len r
      have h1 := refApart_l0 j (by omega) (decU r) (by omega) (decU r) [] [] rfl (by simp; omega) (fun x hx => ih (by omega) x (h x hx))
      have e2 : apartK (j + 1) r = [] ++ (decU r).flatMap (apartK j) := by rw [apartK, if_neg e]; rfl
      rw [e2]
      refine Ev.stepG 100 (fun k hk => ?_) h1
      have hne : ¬ ((decU r).length : Int) = 0 := fun h0 => e (List.length_eq_zero_iff.1 (by omega))
      rw [portcullisref04_apart.f, refDec k hk, Option.bind_some, if_neg hne]
      rfl
theorem refNFD_l0 (d : List Int) (hd : d.length ≤ 60000) : ∀ (rest pre : List Int), d = pre ++ rest → Ev (fun k => portcullisref04_NFD.l0 k d (apL pre) (pre.length : Int)) (nfdU d)
  | [], pre, h => by
    have e : d = pre := by rw [h]; simp
    have hl := apL_len pre
    have hlp : pre.length ≤ 60000 := by rw [← e]; exact hd
    obtain ⟨K, hK⟩ := refOrder_is (apL pre) (by omega)
    refine Ev.stepG (f := fun _ => some (nfdU d)) K (fun k hk => ?_) (Ev.now fun _ => rfl)
    have e1 := hK k hk
    simp only at e1
    rw [portcullisref04_NFD.l0, if_neg (by rw [e]; omega), e1, Option.bind_some, e]
    rfl
  | x :: rest, pre, h => by
    have hr : rd d (pre.length : Int) = x := by rw [h]; exact rd_app pre _ x
    have hl : d.length = pre.length + (rest.length + 1) := by rw [h]; simp
    have hlx := apart_len 4 x
    have hla := apL_len pre
    have hw : wrap64 ((pre.length : Int) + 1) = (((pre ++ [x]).length : Nat) : Int) := by rw [w64n _ (by omega)]; simp
    obtain ⟨K, hK⟩ := refApart_is 4 (by omega) x (dep4 x)
    have ih := refNFD_l0 d hd rest (pre ++ [x]) (by rw [h]; simp)
    refine Ev.stepG K (fun k hk => ?_) ih
    have e := hK k hk
    simp only at e
    have ea : apL (pre ++ [x]) = apL pre ++ apartK 4 x := by rw [apL_append]; simp [apL]
    rw [portcullisref04_NFD.l0, if_pos (by omega), if_pos (by omega), hr, e, Option.bind_some, if_pos (by omega), hw, ea]
theorem refNFD_is (l : List Int) (h : l.length ≤ 60000) : Ev (fun k => portcullisref04_NFD.f k l) (nfdU l) := by
  have := refNFD_l0 l h l [] rfl
  exact Ev.of_eq (fun k => by unfold portcullisref04_NFD.f; rfl) this

theorem w64i (p : Int) (h : -2 ≤ p) (h2 : p ≤ 2147483648) : wrap64 p = p := IntWalk.wrap64_in _ (by omega)
theorem nfc_down {R : List Int} (L : List Int) (i : Int) (hl : L.length ≤ 1000000) (X v : List Int) (hX : Ev (fun k => portcullisref04_NFC.l1 k L i ((X.length : Int) - 1)) R) :
    ∀ (n : Nat) (u : List Int), u.length = n → (∀ y ∈ u, clsU y ≠ 0) → (∃ v', L = X ++ (u ++ v')) → Ev (fun k => portcullisref04_NFC.l1 k L i (((X.length + u.length : Nat) : Int) - 1)) R := by
  intro n
  induction n with
  | zero =>
    intro u hu hnz hL
    have : u = [] := List.length_eq_zero_iff.1 hu
    subst this
    exact hX
  | succ n ih =>
    intro u hu hnz hL
    obtain ⟨v', hL⟩ := hL
    rcases List.eq_nil_or_concat u with rfl | ⟨u', y, rfl⟩
    · simp at hu
    · have hu' : u'.length = n := by simp at hu; omega
      have e1 : (((X.length + (u' ++ [y]).length : Nat) : Int) - 1) = (((X ++ u').length : Nat) : Int) := by simp; omega
      have hL2 : L = (X ++ u') ++ y :: v' := by rw [hL]; simp
      have hr : rd L (((X ++ u').length : Nat) : Int) = y := by rw [hL2]; exact rd_app _ _ y
      have hlen : L.length = (X ++ u').length + (v'.length + 1) := by rw [hL2, List.length_append]; rfl
      have hny : ¬ clsU y = 0 := hnz y (by simp)
      have IH := ih u' hu' (fun z hz => hnz z (by simp [hz])) ⟨y :: v', by rw [hL]; simp⟩
      rw [List.concat_eq_append, e1]
      refine Ev.stepG 100 (fun k hk => ?_) IH
      rw [portcullisref04_NFC.l1, if_pos (by omega), if_pos (by omega), if_pos (by omega), hr, refClass_eq k hk, Option.bind_some, if_neg hny, w64i _ (by omega) (by omega)]
      have e2 : (((X ++ u').length : Nat) : Int) - 1 = ((X.length + u'.length : Nat) : Int) - 1 := by rw [List.length_append]
      rw [e2]
theorem nfc_blk {R : List Int} (L : List Int) (r : Int) (t : List Int) (s : Int) (hl : L.length ≤ 1000000) (i : Nat) :
    ∀ (u X : List Int), L = X ++ (u ++ r :: t) → i = X.length + u.length → (∀ y ∈ u, clsU y ≠ 0) →
      ((∃ y ∈ u, clsU r ≤ clsU y) → Ev (fun k => portcullisref04_NFC.l0 k L ((i : Int) + 1)) R) →
      ((¬ ∃ y ∈ u, clsU r ≤ clsU y) → ∀ z, Ev (fun k => portcullisref04_NFC.j4 k L (i : Int) s false z false) R) →
      Ev (fun k => portcullisref04_NFC.l2 k L (i : Int) s false (X.length : Int)) R
  | [], X, hL, hi, hnz, h1, h2 => by
    refine Ev.step (fun k => ?_) (h2 (by simp) (X.length : Int))
    rw [portcullisref04_NFC.l2, if_neg (by simp at hi; omega)]
  | y :: u, X, hL, hi, hnz, h1, h2 => by
    have hlen : L.length = X.length + (u.length + (t.length + 2)) := by rw [hL]; simp; omega
    have hi' : i = X.length + (u.length + 1) := hi
    have hy : rd L (X.length : Int) = y := by rw [hL]; exact rd_app X _ y
    have hr : rd L (i : Int) = r := by
      have : L = (X ++ y :: u) ++ r :: t := by rw [hL]; simp
      rw [this, show i = (X ++ y :: u).length by simp; omega]
      exact rd_app _ _ r
    have hny : ¬ clsU y = 0 := hnz y List.mem_cons_self
    have hs : ∀ k, 100 ≤ k → portcullisref04_NFC.j4 (k + 1) L (i : Int) s false (X.length : Int) true = portcullisref04_NFC.l2 k L (i : Int) s (decide (clsU y ≥ clsU r)) (((X ++ [y]).length : Nat) : Int) := fun k hk => by
      rw [portcullisref04_NFC.j4, if_pos rfl, if_pos (by omega), if_pos (by omega), hy, refClass_eq k hk, Option.bind_some, if_neg hny, Option.bind_some, if_pos (by omega), if_pos (by omega), hr, refClass_eq k hk, Option.bind_some, w64i _ (by omega) (by omega)]
      simp only [List.length_append, List.length_cons, List.length_nil]
      rfl
    refine Ev.step (f := fun k => portcullisref04_NFC.j4 k L (i : Int) s false (X.length : Int) true) (fun k => ?_) ?_
    · rw [portcullisref04_NFC.l2, if_pos (by omega)]
      rfl
    · refine Ev.stepG 100 hs ?_
      by_cases c : clsU y ≥ clsU r
      · rw [decide_eq_true c]
        have h3 := h1 ⟨y, List.mem_cons_self, c⟩
        refine Ev.step (f := fun k => portcullisref04_NFC.j4 k L (i : Int) s true (((X ++ [y]).length : Nat) : Int) false) (fun k => ?_) ?_
        · rw [portcullisref04_NFC.l2]
          split
          · rfl
          · rfl
        · refine Ev.step (fun k => ?_) h3
          rw [portcullisref04_NFC.j4, if_neg (by decide), if_pos rfl, w64i _ (by omega) (by omega)]
      · rw [decide_eq_false c]
        refine nfc_blk L r t s hl i u (X ++ [y]) (by rw [hL]; simp) (by rw [List.length_append]; simp; omega) (fun z hz => hnz z (List.mem_cons_of_mem _ hz)) (fun ⟨z, hz, hc⟩ => h1 ⟨z, List.mem_cons_of_mem _ hz, hc⟩) (fun hno => h2 fun ⟨z, hz, hc⟩ => ?_)
        rcases List.mem_cons.1 hz with rfl | hz
        · exact c hc
        · exact hno ⟨z, hz, hc⟩
theorem refNFC_l0 : ∀ (rest done : List Int) (st : Option Int) (seg : List Int) (last prev : Int), CmpI seg rest last prev → (st = none → done = []) → (∀ s, st = some s → clsU s = 0) → (seg ≠ [] → ∃ y ∈ seg, clsU y = last) →
    1 ≤ (outU done st seg).length → (outU done st seg ++ rest).length ≤ 1000000 →
    Ev (fun k => portcullisref04_NFC.l0 k (outU done st seg ++ rest) ((outU done st seg).length : Int)) (cpsU rest done st seg last)
  | [], done, st, seg, last, prev, h, hn, hs, hla, h1, hl => by
    have e : cpsU [] done st seg last = outU done st seg := by cases st <;> simp [cpsU, outU]
    rw [e, List.append_nil]
    exact Ev.one fun k => by rw [portcullisref04_NFC.l0, if_neg (by omega)]
  | r :: t, done, st, seg, last, prev, h, hn, hs, hla, h1, hl => by
    have hlen : (outU done st seg ++ r :: t).length = (outU done st seg).length + (t.length + 1) := by rw [List.length_append]; rfl
    have hwi : wrap64 (((outU done st seg).length : Int) - 1) = ((outU done st seg).length : Int) - 1 := w64i _ (by omega) (by omega)
    have go : ∀ st', Ev (fun k => portcullisref04_NFC.l1 k (outU done st seg ++ r :: t) ((outU done st seg).length : Int) (((outU done st seg).length : Int) - 1)) st' → Ev (fun k => portcullisref04_NFC.l0 k (outU done st seg ++ r :: t) ((outU done st seg).length : Int)) st' := fun st' h => by
      refine Ev.step (fun k => ?_) h
      rw [portcullisref04_NFC.l0, if_pos (by omega), hwi]
    -- the next one, pushed
    have push : Ev (fun k => portcullisref04_NFC.l0 k (outU done st seg ++ r :: t) (((outU done st seg).length : Int) + 1)) (if clsU r = 0 then cpsU t (outU done st seg) (some r) [] 0 else cpsU t done st (seg ++ [r]) (clsU r)) := by
      by_cases hz : clsU r = 0
      · have e3 : outU (outU done st seg) (some r) [] = outU done st seg ++ [r] := by simp [outU]
        have e2 : outU done st seg ++ r :: t = outU (outU done st seg) (some r) [] ++ t := by rw [e3]; simp
        have e4 : ((outU done st seg).length : Int) + 1 = ((outU (outU done st seg) (some r) []).length : Int) := by rw [e3]; simp
        rw [if_pos hz, e4]
        rw [e2] at hl ⊢
        exact refNFC_l0 t (outU done st seg) (some r) [] 0 0 (h.zero hz) (fun h => by cases h) (fun s h => by cases h; exact hz) (fun h => absurd rfl h) (by rw [e3]; simp) hl
      · have e3 : outU done st (seg ++ [r]) = outU done st seg ++ [r] := by simp [outU]
        have e2 : outU done st seg ++ r :: t = outU done st (seg ++ [r]) ++ t := by rw [e3]; simp
        have e4 : ((outU done st seg).length : Int) + 1 = ((outU done st (seg ++ [r])).length : Int) := by rw [e3]; simp
        rw [if_neg hz, e4]
        rw [e2] at hl ⊢
        exact refNFC_l0 t done st (seg ++ [r]) (clsU r) (clsU r) (h.push hz) hn hs (fun _ => ⟨r, by simp, rfl⟩) (by rw [e3]; simp) hl
    cases st with
    | none =>
      have hd := hn rfl
      subst hd
      have e : cpsU (r :: t) [] none seg last = if clsU r = 0 then cpsU t (outU [] none seg) (some r) [] 0 else cpsU t [] none (seg ++ [r]) (clsU r) := by rw [cpsU]; rfl
      rw [e]
      refine go _ ?_
      have e1 : ((outU [] none seg).length : Int) - 1 = ((([] : List Int).length + seg.length : Nat) : Int) - 1 := by simp [outU]
      rw [e1]
      refine nfc_down _ _ hl [] [] ?_ seg.length seg rfl h.nz ⟨r :: t, by simp [outU]⟩
      refine Ev.step (f := fun k => portcullisref04_NFC.j2 k (outU [] none seg ++ r :: t) ((outU [] none seg).length : Int) (-1)) (fun k => ?_) ?_
      · rw [portcullisref04_NFC.l1, if_neg (by decide)]
        rfl
      · refine Ev.step (f := fun k => portcullisref04_NFC.l2 k (outU [] none seg ++ r :: t) ((outU [] none seg).length : Int) (-1) true 0) (fun k => ?_) ?_
        · rw [portcullisref04_NFC.j2, decide_eq_true (by decide : (-1 : Int) < 0), w64i _ (by omega) (by omega)]
          rfl
        · refine Ev.step (f := fun k => portcullisref04_NFC.j4 k (outU [] none seg ++ r :: t) ((outU [] none seg).length : Int) (-1) true 0 false) (fun k => ?_) ?_
          · rw [portcullisref04_NFC.l2]
            split
            · rfl
            · rfl
          · refine Ev.step (fun k => ?_) push
            rw [portcullisref04_NFC.j4, if_neg (by decide), if_pos rfl, w64i _ (by omega) (by omega)]
    | some s =>
      have hs0 : clsU s = 0 := hs s rfl
      refine go _ ?_
      have eo : outU done (some s) seg = (done ++ [s]) ++ seg := by simp [outU]
      have elo : (outU done (some s) seg).length = (done ++ [s]).length + seg.length := by rw [eo, List.length_append]
      have elo2 : (done ++ [s]).length = done.length + 1 := by simp
      have eL : outU done (some s) seg ++ r :: t = (done ++ [s]) ++ (seg ++ r :: t) := by rw [eo]; simp
      have eL2 : outU done (some s) seg ++ r :: t = done ++ s :: (seg ++ r :: t) := by rw [eo]; simp
      have hrs : rd (outU done (some s) seg ++ r :: t) (done.length : Int) = s := by rw [eL2]; exact rd_app done _ s
      have hrr : rd (outU done (some s) seg ++ r :: t) ((outU done (some s) seg).length : Int) = r := rd_app _ _ r
      have e1 : ((outU done (some s) seg).length : Int) - 1 = (((done ++ [s]).length + seg.length : Nat) : Int) - 1 := by rw [elo]
      rw [e1]
      refine nfc_down _ _ hl (done ++ [s]) [] ?_ seg.length seg rfl h.nz ⟨r :: t, eL⟩
      have e5 : (((done ++ [s]).length : Nat) : Int) - 1 = (done.length : Int) := by omega
      rw [e5]
      refine Ev.stepG (f := fun k => portcullisref04_NFC.j2 k (outU done (some s) seg ++ r :: t) ((outU done (some s) seg).length : Int) (done.length : Int)) 100 (fun k hk => ?_) ?_
      · rw [portcullisref04_NFC.l1, if_pos (by omega), if_pos (by omega), if_pos (by omega), hrs, refClass_eq k hk, Option.bind_some, if_pos hs0]
      refine Ev.step (f := fun k => portcullisref04_NFC.l2 k (outU done (some s) seg ++ r :: t) ((outU done (some s) seg).length : Int) (done.length : Int) false (((done ++ [s]).length : Nat) : Int)) (fun k => ?_) ?_
      · rw [portcullisref04_NFC.j2, w64i _ (by omega) (by omega), decide_eq_false (show ¬ (done.length : Int) < 0 by omega), show (done.length : Int) + 1 = (((done ++ [s]).length : Nat) : Int) by omega]
      have hbl : (¬ ∃ y ∈ seg, clsU r ≤ clsU y) ↔ (seg = [] ∨ (last ≠ 0 ∧ last < clsU r)) := by
        constructor
        · intro hno
          by_cases hseg : seg = []
          · exact .inl hseg
          · obtain ⟨y, hy, hyl⟩ := hla hseg
            have a1 := h.nz y hy
            have a2 : ¬ clsU r ≤ clsU y := fun hc => hno ⟨y, hy, hc⟩
            exact .inr ⟨by omega, by omega⟩
        · rintro (rfl | hc) ⟨y, hy, hyr⟩
          · simp at hy
          · have := h.le y hy
            omega
      have hpush : ¬ ((seg = [] ∨ (last ≠ 0 ∧ last < clsU r)) ∧ (prU s r).2 = true) → Ev (fun k => portcullisref04_NFC.l0 k (outU done (some s) seg ++ r :: t) (((outU done (some s) seg).length : Int) + 1)) (cpsU (r :: t) done (some s) seg last) := fun hc => by
        have e : cpsU (r :: t) done (some s) seg last = if clsU r = 0 then cpsU t (outU done (some s) seg) (some r) [] 0 else cpsU t done (some s) (seg ++ [r]) (clsU r) := by rw [cpsU, if_neg hc]; rfl
        rw [e]
        exact push
      refine nfc_blk _ r t (done.length : Int) hl (outU done (some s) seg).length seg (done ++ [s]) eL elo h.nz (fun hb => hpush fun hc => ?_) (fun hb z => ?_)
      · exact hbl.2 hc.1 hb
      · have hb' := hbl.1 hb
        by_cases hp : (prU s r).2 = true
        · have e : cpsU (r :: t) done (some s) seg last = cpsU t done (some (prU s r).1) seg last := by rw [cpsU, if_pos ⟨hb', hp⟩]
          rw [e]
          have hpi := pair_in hp
          have e6 : (outU done (some (prU s r).1) seg).length = (outU done (some s) seg).length := by simp [outU]
          have IH := refNFC_l0 t done (some (prU s r).1) seg last (clsU r) (h.take hpi.2.1) (fun h => by cases h) (fun q hq => by cases hq; exact hpi.1) hla (by omega) (by rw [List.length_append] at hl ⊢; simp only [List.length_cons] at hl; omega)
          refine Ev.stepG 100 (fun k hk => ?_) IH
          have hset : (outU done (some s) seg ++ r :: t).set ((done.length : Int)).toNat (prU s r).1 = outU done (some (prU s r).1) seg ++ r :: t := by
            rw [Int.toNat_natCast, eL2, List.set_append_right _ _ (Nat.le_refl _), Nat.sub_self, List.set_cons_zero]
            simp [outU]
          have htk : (outU done (some (prU s r).1) seg ++ r :: t).take (((outU done (some s) seg).length : Int)).toNat = outU done (some (prU s r).1) seg := by
            rw [Int.toNat_natCast, ← e6]
            exact List.take_left
          have hdr : (outU done (some (prU s r).1) seg ++ r :: t).drop ((((outU done (some s) seg).length : Int)) + 1).toNat = t := by
            have e7 : ((((outU done (some s) seg).length : Int)) + 1).toNat = (outU done (some (prU s r).1) seg).length + 1 := by omega
            rw [e7, List.drop_append, List.drop_eq_nil_of_le (by omega), Nat.add_sub_cancel_left]
            rfl
          rw [portcullisref04_NFC.j4, if_neg (by decide), if_neg (by decide), if_pos (by omega), if_pos (by omega), if_pos (by omega), if_pos (by omega), hrs, hrr, refPr k hk, Option.bind_some, if_pos hp, hset, Option.bind_some, if_pos (by omega), htk, Option.bind_some, List.nil_append, if_pos (by simp only [List.length_nil]; omega), Option.bind_some, w64i _ (by omega) (by omega), if_pos (by omega), if_pos (by omega), hdr, Option.bind_some, if_pos (by omega), e6]
        · refine Ev.stepG 100 (fun k hk => ?_) (hpush fun hc => hp hc.2)
          rw [portcullisref04_NFC.j4, if_neg (by decide), if_neg (by decide), if_pos (by omega), if_pos (by omega), if_pos (by omega), if_pos (by omega), hrs, hrr, refPr k hk, Option.bind_some, if_neg hp, w64i _ (by omega) (by omega)]
theorem refNFC_is (l : List Int) (hl : l.length ≤ 60000) : Ev (fun k => portcullisref04_NFC.f k l) (nfcU l) := by
  obtain ⟨K, hK⟩ := refNFD_is l hl
  have hn := nfd_len l
  have key : Ev (fun k => portcullisref04_NFC.l0 k (nfdU l) 1) (nfcU l) := by
    unfold nfcU
    have hst := nfd_start l
    cases hd : nfdU l with
    | nil => exact Ev.one fun k => by rw [portcullisref04_NFC.l0, if_neg (by simp)]; rfl
    | cons x t =>
      rw [hd] at hst hn
      simp only [List.length_cons] at hn
      by_cases hz : clsU x = 0
      · have e : cpsU (x :: t) [] none [] 0 = cpsU t [] (some x) [] 0 := by rw [cpsU, if_pos hz]; rfl
        rw [e]
        exact refNFC_l0 t [] (some x) [] 0 0 (hst.zero hz) (fun h => by cases h) (fun s h => by cases h; exact hz) (fun h => absurd rfl h) (by simp [outU]) (by simp [outU]; omega)
      · have e : cpsU (x :: t) [] none [] 0 = cpsU t [] none [x] (clsU x) := by rw [cpsU, if_neg hz]; rfl
        rw [e]
        exact refNFC_l0 t [] none [x] (clsU x) (clsU x) (hst.push hz) (fun _ => rfl) (fun s h => by cases h) (fun _ => ⟨x, by simp, rfl⟩) (by simp [outU]) (by simp [outU]; omega)
  obtain ⟨K2, hK2⟩ := key
  refine ⟨K + K2, fun k hk => ?_⟩
  have e1 := hK k (by omega)
  have e2 := hK2 k (by omega)
  simp only at e1 e2 ⊢
  unfold portcullisref04_NFC.f
  rw [e1, Option.bind_some, e2]
end Go.Proofs.YtncbbgmhmofhnaaDoor.Pr
end

section
namespace Go.Proofs.YtncbbgmhmofhnaaDoor.Pr
open Go.RowKit Go.Proofs.YtncbbgmhmofhnaaDoorW.PrintWords Go.Proofs.YtncbbgmhmofhnaaDoorW.PrintLast Go.Proofs.YtncbbgmhmofhnaaDoorW.PrintMore
set_option linter.unusedVariables false
set_option linter.unusedSimpArgs false

def ints (t : List UInt8) : List Int := t.map fun c => (c.toNat : Int)
theorem strOfNums_ints (t : List UInt8) : strOfNums (ints t) = mkB t := by
  unfold strOfNums ints mkB
  rw [List.map_map]
  have e2 : t.map ((fun n : Int => UInt8.ofNat n.toNat) ∘ fun c : UInt8 => (c.toNat : Int)) = t := by
    conv => rhs; rw [← List.map_id t]
    exact List.map_congr_left fun c _ => by simp
  rw [e2]
theorem bt_mkB (s : List UInt8) (i : Nat) (h : i < s.length) : bt (mkB s) (i : Int) = (s[i].toNat : Int) := by
  have hs : (i : Int).toNat < (mkB s).size := by rw [mkB_size]; exact h
  rw [← bt_at (mkB s) (i : Int) hs]
  have e : (mkB s).data.toList[i]? = some ((mkB s)[(i : Int).toNat]'hs) := by
    have := Lib.data_getElem? (mkB s) i (by rw [mkB_size]; exact h)
    exact this
  rw [data_mkB, List.getElem?_eq_getElem h] at e
  rw [← Option.some.inj e]
theorem ext_take (t : List UInt8) (m : Nat) : (mkB t).extract 0 m = mkB (t.take m) := by
  apply ByteArray.ext
  rw [ByteArray.data_extract]
  unfold mkB
  simp
theorem ext_drop (t : List UInt8) (m : Nat) : (mkB t).extract m (mkB t).size = mkB (t.drop m) := by
  apply ByteArray.ext
  rw [ByteArray.data_extract, mkB_size]
  unfold mkB
  simp [List.take_of_length_le]
theorem str_inj {xs : List Int} (hx : ∀ x ∈ xs, 0 ≤ x ∧ x < 256) (t : List UInt8) : ((strOfNums xs).toList == (mkB t).toList) = decide (xs = ints t) := by
  have e : xs = ints (xs.map fun x => x.toNat.toUInt8) := by
    unfold ints
    rw [List.map_map]
    symm
    conv => rhs; rw [← List.map_id xs]
    refine List.map_congr_left fun x h => ?_
    have := hx x h
    simp
    omega
  generalize (xs.map fun x => x.toNat.toUInt8) = u at e
  subst e
  rw [strOfNums_ints, Lib.toList_data, Lib.toList_data, data_mkB, data_mkB]
  have hinj : ints u = ints t ↔ u = t := by
    constructor
    · intro h
      have h2 := congrArg (List.map fun x : Int => x.toNat.toUInt8) h
      unfold ints at h2
      rw [List.map_map, List.map_map] at h2
      have hid : ((fun x : Int => x.toNat.toUInt8) ∘ fun c : UInt8 => (c.toNat : Int)) = id := by
        funext c
        simp
      rw [hid, List.map_id, List.map_id] at h2
      exact h2
    · rintro rfl; rfl
  rw [decide_eq_decide.2 hinj]
  by_cases h : u = t
  · rw [decide_eq_true h, h]; simp
  · rw [decide_eq_false h]
    exact beq_eq_false_iff_ne.2 h

def v2 (a b : Int) : Int := (a - 192) * 64 + b - 128
def v3 (a b c : Int) : Int := ((a - 224) * 64 + b - 128) * 64 + c - 128
def v4 (a b c d : Int) : Int := (((a - 240) * 64 + b - 128) * 64 + c - 128) * 64 + d - 128
def P2 (a b : Int) : Prop := 194 ≤ a ∧ a ≤ 223 ∧ 128 ≤ b ∧ b ≤ 191
def P3 (a b : Int) : Prop := 224 ≤ a ∧ a ≤ 239 ∧ 128 ≤ b ∧ b ≤ 191 ∧ (a = 224 → 160 ≤ b) ∧ (a = 237 → b ≤ 159)
def P4 (a b : Int) : Prop := 240 ≤ a ∧ a ≤ 244 ∧ 128 ≤ b ∧ b ≤ 191 ∧ (a = 240 → 144 ≤ b) ∧ (a = 244 → b ≤ 143)
def C8 (c : Int) : Prop := 128 ≤ c ∧ c ≤ 191
instance (a b : Int) : Decidable (P2 a b) := by unfold P2; infer_instance
instance (a b : Int) : Decidable (P3 a b) := by unfold P3; infer_instance
instance (a b : Int) : Decidable (P4 a b) := by unfold P4; infer_instance
instance (c : Int) : Decidable (C8 c) := by unfold C8; infer_instance
abbrev ub (a : UInt8) : Int := (a.toNat : Int)
theorem ub_rng (a : UInt8) : 0 ≤ ub a ∧ ub a ≤ 255 := by
  have := a.toNat_lt
  unfold ub
  omega
def nxL : List UInt8 → Int × Int × Bool
  | [] => (0, 0, false)
  | [a] => if ub a < 128 then (ub a, 1, true) else (65533, 1, false)
  | [a, b] => if ub a < 128 then (ub a, 1, true) else if P2 (ub a) (ub b) then (v2 (ub a) (ub b), 2, true) else if P3 (ub a) (ub b) ∨ P4 (ub a) (ub b) then (65533, 2, false) else (65533, 1, false)
  | [a, b, c] => if ub a < 128 then (ub a, 1, true) else if P2 (ub a) (ub b) then (v2 (ub a) (ub b), 2, true)
      else if P3 (ub a) (ub b) then (if C8 (ub c) then (v3 (ub a) (ub b) (ub c), 3, true) else (65533, 2, false))
      else if P4 (ub a) (ub b) then (if C8 (ub c) then (65533, 3, false) else (65533, 2, false)) else (65533, 1, false)
  | a :: b :: c :: d :: _ => if ub a < 128 then (ub a, 1, true) else if P2 (ub a) (ub b) then (v2 (ub a) (ub b), 2, true)
      else if P3 (ub a) (ub b) then (if C8 (ub c) then (v3 (ub a) (ub b) (ub c), 3, true) else (65533, 2, false))
      else if P4 (ub a) (ub b) then (if C8 (ub c) then (if C8 (ub d) then (v4 (ub a) (ub b) (ub c) (ub d), 4, true) else (65533, 3, false)) else (65533, 2, false)) else (65533, 1, false)

def Scal (c : Int) : Prop := 0 ≤ c ∧ c ≤ 1114111 ∧ (c < 55296 ∨ 57343 < c)
instance (c : Int) : Decidable (Scal c) := by unfold Scal; infer_instance
theorem scalar_is (c : Int) : portcullisref01_Scalar.f c = some (decide (Scal c)) := by
  unfold portcullisref01_Scalar.f
  by_cases h1 : c ≥ 0
  · by_cases h2 : c ≤ 1114111
    · by_cases h3 : c < 55296
      · rw [if_pos h1, if_pos h2, if_pos h3, decide_eq_true (show Scal c from ⟨h1, h2, .inl h3⟩)]
      · rw [if_pos h1, if_pos h2, if_neg h3]
        congr 1
        rw [decide_eq_decide]
        unfold Scal
        omega
    · rw [if_pos h1, if_neg h2, decide_eq_false (fun h => h2 h.2.1)]
  · rw [if_neg h1, decide_eq_false (fun h => h1 h.1)]
theorem w32 (n : Int) (h : -2147483648 ≤ n ∧ n ≤ 2147483647) : wrap32 n = n := IntWalk.wrap32_in n h
theorem bytes_is (c : Int) (h : Scal c) : portcullisref01_Bytes.f c = some (strOfNums (Lib.encodeRuneZ c)) := by
  unfold Scal at h
  have e1 : Int.tdiv c 64 = c / 64 := Int.tdiv_eq_ediv_of_nonneg (by omega)
  have e2 : Int.tdiv c 4096 = c / 4096 := Int.tdiv_eq_ediv_of_nonneg (by omega)
  have e3 : Int.tdiv c 262144 = c / 262144 := Int.tdiv_eq_ediv_of_nonneg (by omega)
  have f1 : Int.tmod c 64 = c % 64 := Int.tmod_eq_emod_of_nonneg (by omega)
  have f2 : Int.tmod (c / 64) 64 = c / 64 % 64 := Int.tmod_eq_emod_of_nonneg (by omega)
  have f3 : Int.tmod (c / 4096) 64 = c / 4096 % 64 := Int.tmod_eq_emod_of_nonneg (by omega)
  unfold portcullisref01_Bytes.f
  rw [e1, e2, e3, f1, w32 (c / 64) (by omega), w32 (c / 4096) (by omega), w32 (c / 262144) (by omega), f2, f3]
  by_cases h1 : c < 128
  · rw [if_pos h1, if_pos (by decide), Lib.encodeRuneZ_one h.1 (by omega), List.nil_append, show c % 256 = c by omega]
  · rw [if_neg h1]
    by_cases h2 : c < 2048
    · rw [if_pos h2, Option.bind_some, if_pos (by simp), Lib.encodeRuneZ_two (by omega) (by omega), List.nil_append, w32 (192 + c / 64) (by omega), w32 (128 + c % 64) (by omega), show (192 + c / 64) % 256 = 192 + c / 64 by omega, show (128 + c % 64) % 256 = 128 + c % 64 by omega]
    · rw [if_neg h2]
      by_cases h3 : c < 65536
      · rw [if_pos h3, Option.bind_some, if_pos (by simp), Lib.encodeRuneZ_three (by omega), List.nil_append, w32 (224 + c / 4096) (by omega), w32 (128 + c / 64 % 64) (by omega), w32 (128 + c % 64) (by omega), show (224 + c / 4096) % 256 = 224 + c / 4096 by omega, show (128 + c / 64 % 64) % 256 = 128 + c / 64 % 64 by omega, show (128 + c % 64) % 256 = 128 + c % 64 by omega]
      · rw [if_neg h3, Option.bind_some, if_pos (by simp), Lib.encodeRuneZ_four (by omega) (by omega), List.nil_append, w32 (240 + c / 262144) (by omega), w32 (128 + c / 4096 % 64) (by omega), w32 (128 + c / 64 % 64) (by omega), w32 (128 + c % 64) (by omega), show (240 + c / 262144) % 256 = 240 + c / 262144 by omega, show (128 + c / 4096 % 64) % 256 = 128 + c / 4096 % 64 by omega, show (128 + c / 64 % 64) % 256 = 128 + c / 64 % 64 by omega, show (128 + c % 64) % 256 = 128 + c % 64 by omega]
theorem value_l0 (k : Nat) (t : List UInt8) (x : Int) (i : Nat) (hi : i < t.length) (hl : t.length ≤ 4) (hx : -1000000 ≤ x ∧ x ≤ 1000000) :
    portcullisref01_value.l0 (k + 1) (mkB t) x (i : Int) = portcullisref01_value.l0 k (mkB t) (x * 64 + ub t[i] - 128) ((i + 1 : Nat) : Int) := by
  have hb := ub_rng t[i]
  rw [portcullisref01_value.l0, if_pos (by rw [mkB_size]; omega), if_pos (by omega), bt_mkB t i hi]
  show portcullisref01_value.l0 k (mkB t) (wrap32 (wrap32 (wrap32 (x * 64) + wrap32 (ub t[i])) - 128)) _ = _
  rw [w32 (x * 64) (by omega), w32 (ub t[i]) (by omega), w32 (x * 64 + ub t[i]) (by omega), w32 _ (by omega), w64n i (by omega)]
theorem value_end (k : Nat) (t : List UInt8) (x : Int) (i : Nat) (hi : i = t.length) : portcullisref01_value.l0 (k + 1) (mkB t) x (i : Int) = some x := by
  rw [portcullisref01_value.l0, if_neg (by rw [mkB_size]; omega)]
def valL : List UInt8 → Int
  | [a] => ub a
  | [a, b] => v2 (ub a) (ub b)
  | [a, b, c] => v3 (ub a) (ub b) (ub c)
  | [a, b, c, d] => v4 (ub a) (ub b) (ub c) (ub d)
  | _ => 0
theorem value_is (k : Nat) (t : List UInt8) (h0 : 1 ≤ t.length) (h4 : t.length ≤ 4) : portcullisref01_value.f (k + 5) (mkB t) = some (valL t) := by
  have hz : ∀ (u : List UInt8) (h : 0 < u.length), bt (mkB u) 0 = ub u[0] := fun u h => bt_mkB u 0 h
  match t, h0, h4 with
  | [a], _, _ =>
    have ha := ub_rng a
    have hsz : ((mkB [a]).size : Int) = 1 := by rw [mkB_size]; rfl
    unfold portcullisref01_value.f
    rw [hsz, if_pos (by decide), if_neg (by decide), if_neg (by decide), if_neg (by decide), hz _ (by simp), portcullisref01_value.j0]
    show portcullisref01_value.l0 (k + 3 + 1) (mkB [a]) (wrap32 (ub a)) ((1 : Nat) : Int) = _
    rw [w32 (ub a) (by omega)]
    exact value_end (k + 3) [a] _ 1 rfl
  | [a, b], _, _ =>
    have ha := ub_rng a
    have hsz : ((mkB [a, b]).size : Int) = 2 := by rw [mkB_size]; rfl
    unfold portcullisref01_value.f
    rw [hsz, if_pos (by decide), if_pos (by decide), hz _ (by simp), portcullisref01_value.j0]
    show portcullisref01_value.l0 (k + 3 + 1) (mkB [a, b]) (wrap32 (wrap32 (ub a) - 192)) ((1 : Nat) : Int) = _
    rw [w32 (ub a) (by omega), w32 (ub a - 192) (by omega), value_l0 _ _ _ _ (by simp) (by simp) (by omega)]
    exact value_end (k + 2) [a, b] _ 2 rfl
  | [a, b, c], _, _ =>
    have ha := ub_rng a
    have hb := ub_rng b
    have hsz : ((mkB [a, b, c]).size : Int) = 3 := by rw [mkB_size]; rfl
    unfold portcullisref01_value.f
    rw [hsz, if_pos (by decide), if_neg (by decide), if_pos (by decide), hz _ (by simp), portcullisref01_value.j0]
    show portcullisref01_value.l0 (k + 3 + 1) (mkB [a, b, c]) (wrap32 (wrap32 (ub a) - 224)) ((1 : Nat) : Int) = _
    rw [w32 (ub a) (by omega), w32 (ub a - 224) (by omega), value_l0 _ _ _ _ (by simp) (by simp) (by omega)]
    show portcullisref01_value.l0 (k + 2 + 1) (mkB [a, b, c]) ((ub a - 224) * 64 + ub b - 128) ((2 : Nat) : Int) = _
    rw [value_l0 _ _ _ _ (by simp) (by simp) (by omega)]
    exact value_end (k + 1) [a, b, c] _ 3 rfl
  | [a, b, c, d], _, _ =>
    have ha := ub_rng a
    have hb := ub_rng b
    have hc := ub_rng c
    have hsz : ((mkB [a, b, c, d]).size : Int) = 4 := by rw [mkB_size]; rfl
    unfold portcullisref01_value.f
    rw [hsz, if_pos (by decide), if_neg (by decide), if_neg (by decide), if_pos (by decide), hz _ (by simp), portcullisref01_value.j0]
    show portcullisref01_value.l0 (k + 3 + 1) (mkB [a, b, c, d]) (wrap32 (wrap32 (ub a) - 240)) ((1 : Nat) : Int) = _
    rw [w32 (ub a) (by omega), w32 (ub a - 240) (by omega), value_l0 _ _ _ _ (by simp) (by simp) (by omega)]
    show portcullisref01_value.l0 (k + 2 + 1) (mkB [a, b, c, d]) ((ub a - 240) * 64 + ub b - 128) ((2 : Nat) : Int) = _
    rw [value_l0 _ _ _ _ (by simp) (by simp) (by omega)]
    show portcullisref01_value.l0 (k + 1 + 1) (mkB [a, b, c, d]) (((ub a - 240) * 64 + ub b - 128) * 64 + ub c - 128) ((3 : Nat) : Int) = _
    rw [value_l0 _ _ _ _ (by simp) (by simp) (by omega)]
    exact value_end (k + 0) [a, b, c, d] _ 4 rfl
def Whole (t : List UInt8) : Prop := Scal (valL t) ∧ Lib.encodeRuneZ (valL t) = ints t
instance (t : List UInt8) : Decidable (Whole t) := by unfold Whole; infer_instance
theorem whole_is (k : Nat) (t : List UInt8) (h0 : 1 ≤ t.length) (h4 : t.length ≤ 4) : portcullisref01_whole.f (k + 5) (mkB t) = some (decide (Whole t)) := by
  unfold portcullisref01_whole.f
  rw [value_is k t h0 h4, Option.bind_some, scalar_is, Option.bind_some]
  by_cases h : Scal (valL t)
  · rw [if_pos (decide_eq_true h), bytes_is _ h, Option.bind_some, str_inj (Lib.encodeRuneZ_byte _)]
    congr 1
    rw [decide_eq_decide]
    exact ⟨fun e => ⟨h, e⟩, fun e => e.2⟩
  · rw [if_neg (by rw [decide_eq_false h]; decide), decide_eq_false (fun e => h e.1)]
theorem ints1 (a : UInt8) : ints [a] = [ub a] := rfl
theorem ints2 (a b : UInt8) : ints [a, b] = [ub a, ub b] := rfl
theorem ints3 (a b c : UInt8) : ints [a, b, c] = [ub a, ub b, ub c] := rfl
theorem ints4 (a b c d : UInt8) : ints [a, b, c, d] = [ub a, ub b, ub c, ub d] := rfl
theorem whole1 (a : UInt8) : Whole [a] ↔ ub a < 128 := by
  have ha := ub_rng a
  unfold Whole
  rw [ints1]
  show Scal (ub a) ∧ Lib.encodeRuneZ (ub a) = [ub a] ↔ ub a < 128
  unfold Scal
  constructor
  · rintro ⟨h, e⟩
    false_or_by_contra
    rw [Lib.encodeRuneZ_two (by omega) (by omega)] at e
    simp at e
  · intro h
    exact ⟨by omega, Lib.encodeRuneZ_one (by omega) (by omega)⟩
theorem encZ_cases {c : Int} (h : Scal c) : (c ≤ 127 ∧ Lib.encodeRuneZ c = [c]) ∨ (128 ≤ c ∧ c ≤ 2047 ∧ Lib.encodeRuneZ c = [192 + c / 64, 128 + c % 64]) ∨
    (2048 ≤ c ∧ c ≤ 65535 ∧ Lib.encodeRuneZ c = [224 + c / 4096, 128 + c / 64 % 64, 128 + c % 64]) ∨ (65536 ≤ c ∧ Lib.encodeRuneZ c = [240 + c / 262144, 128 + c / 4096 % 64, 128 + c / 64 % 64, 128 + c % 64]) := by
  unfold Scal at h
  by_cases h1 : c ≤ 127
  · exact .inl ⟨h1, Lib.encodeRuneZ_one h.1 h1⟩
  · by_cases h2 : c ≤ 2047
    · exact .inr (.inl ⟨by omega, h2, Lib.encodeRuneZ_two (by omega) h2⟩)
    · by_cases h3 : c ≤ 65535
      · exact .inr (.inr (.inl ⟨by omega, h3, Lib.encodeRuneZ_three (by omega)⟩))
      · exact .inr (.inr (.inr ⟨by omega, Lib.encodeRuneZ_four (by omega) h.2.1⟩))
theorem whole2 (a b : UInt8) : Whole [a, b] ↔ P2 (ub a) (ub b) := by
  have ha := ub_rng a
  have hb := ub_rng b
  unfold Whole
  rw [ints2]
  show Scal (v2 (ub a) (ub b)) ∧ Lib.encodeRuneZ (v2 (ub a) (ub b)) = [ub a, ub b] ↔ _
  generalize ub a = a at *
  generalize ub b = b at *
  constructor
  · rintro ⟨h, e⟩
    rcases encZ_cases h with ⟨h1, e1⟩ | ⟨h1, h2, e1⟩ | ⟨h1, h2, e1⟩ | ⟨h1, e1⟩ <;> rw [e1] at e <;> simp only [List.cons.injEq, reduceCtorEq, and_false, and_true] at e
    · unfold v2 at e h1 h2; unfold P2; omega
  · intro h
    unfold P2 at h
    have hs : Scal (v2 a b) := by unfold Scal v2; omega
    refine ⟨hs, ?_⟩
    rcases encZ_cases hs with ⟨h1, e1⟩ | ⟨h1, h2, e1⟩ | ⟨h1, h2, e1⟩ | ⟨h1, e1⟩ <;> unfold v2 at h1
    · omega
    · rw [e1]; unfold v2; congr 1; omega; congr 1; omega
    · omega
    · omega
theorem whole3 (a b c : UInt8) : Whole [a, b, c] ↔ P3 (ub a) (ub b) ∧ C8 (ub c) := by
  have ha := ub_rng a
  have hb := ub_rng b
  have hc := ub_rng c
  unfold Whole
  rw [ints3]
  show Scal (v3 (ub a) (ub b) (ub c)) ∧ Lib.encodeRuneZ (v3 (ub a) (ub b) (ub c)) = [ub a, ub b, ub c] ↔ _
  generalize ub a = a at *
  generalize ub b = b at *
  generalize ub c = c at *
  constructor
  · rintro ⟨h, e⟩
    rcases encZ_cases h with ⟨h1, e1⟩ | ⟨h1, h2, e1⟩ | ⟨h1, h2, e1⟩ | ⟨h1, e1⟩ <;> rw [e1] at e <;> simp only [List.cons.injEq, reduceCtorEq, and_false, and_true] at e
    · unfold Scal at h; unfold v3 at e h1 h2 h; unfold P3 C8; omega
  · rintro ⟨h, hc8⟩
    unfold P3 at h
    unfold C8 at hc8
    have hs : Scal (v3 a b c) := by unfold Scal v3; omega
    refine ⟨hs, ?_⟩
    rcases encZ_cases hs with ⟨h1, e1⟩ | ⟨h1, h2, e1⟩ | ⟨h1, h2, e1⟩ | ⟨h1, e1⟩ <;> unfold v3 at h1
    · omega
    · unfold v3 at h2; omega
    · rw [e1]; unfold v3; congr 1; omega; congr 1; omega; congr 1; omega
    · omega
theorem whole4 (a b c d : UInt8) : Whole [a, b, c, d] ↔ P4 (ub a) (ub b) ∧ C8 (ub c) ∧ C8 (ub d) := by
  have ha := ub_rng a
  have hb := ub_rng b
  have hc := ub_rng c
  have hd := ub_rng d
  unfold Whole
  rw [ints4]
  show Scal (v4 (ub a) (ub b) (ub c) (ub d)) ∧ Lib.encodeRuneZ (v4 (ub a) (ub b) (ub c) (ub d)) = [ub a, ub b, ub c, ub d] ↔ _
  generalize ub a = a at *
  generalize ub b = b at *
  generalize ub c = c at *
  generalize ub d = d at *
  constructor
  · rintro ⟨h, e⟩
    rcases encZ_cases h with ⟨h1, e1⟩ | ⟨h1, h2, e1⟩ | ⟨h1, h2, e1⟩ | ⟨h1, e1⟩ <;> rw [e1] at e <;> simp only [List.cons.injEq, reduceCtorEq, and_false, and_true] at e
    · unfold Scal at h; unfold v4 at e h1 h; unfold P4 C8; omega
  · rintro ⟨h, hc8, hd8⟩
    unfold P4 at h
    unfold C8 at hc8 hd8
    have hs : Scal (v4 a b c d) := by unfold Scal v4; omega
    refine ⟨hs, ?_⟩
    rcases encZ_cases hs with ⟨h1, e1⟩ | ⟨h1, h2, e1⟩ | ⟨h1, h2, e1⟩ | ⟨h1, e1⟩ <;> unfold v4 at h1
    · omega
    · unfold v4 at h2; omega
    · unfold v4 at h2; omega
    · rw [e1]; unfold v4; congr 1; omega; congr 1; omega; congr 1; omega; congr 1; omega

def begL : List UInt8 → Bool
  | [a, b] => decide (P2 (ub a) (ub b) ∨ P3 (ub a) (ub b) ∨ P4 (ub a) (ub b))
  | [a, b, c] => decide ((P3 (ub a) (ub b) ∨ P4 (ub a) (ub b)) ∧ C8 (ub c))
  | _ => false
theorem bt0 (a : UInt8) (r : List UInt8) : bt (mkB (a :: r)) 0 = ub a := bt_mkB (a :: r) 0 (by simp)
theorem bt1 (a b : UInt8) (r : List UInt8) : bt (mkB (a :: b :: r)) 1 = ub b := bt_mkB (a :: b :: r) 1 (by simp)
theorem bt2 (a b c : UInt8) (r : List UInt8) : bt (mkB (a :: b :: c :: r)) 2 = ub c := bt_mkB (a :: b :: c :: r) 2 (by simp)
theorem bt3 (a b c d : UInt8) (r : List UInt8) : bt (mkB (a :: b :: c :: d :: r)) 3 = ub d := bt_mkB (a :: b :: c :: d :: r) 3 (by simp)
theorem some_dec {Q : Prop} [Decidable Q] {X : Option Bool} (h1 : Q → X = some true) (h2 : ¬ Q → X = some false) : X = some (decide Q) := by
  by_cases h : Q
  · rw [decide_eq_true h]; exact h1 h
  · rw [decide_eq_false h]; exact h2 h
set_option maxHeartbeats 4000000 in
theorem begins2 (k : Nat) (a b : UInt8) : portcullisref01_begins.f (k + 4) (mkB [a, b]) = some (begL [a, b]) := by
  have ha := ub_rng a
  have hb := ub_rng b
  have hsz : ((mkB [a, b]).size : Int) = 2 := by rw [mkB_size]; rfl
  unfold portcullisref01_begins.f
  rw [hsz, if_pos (by decide), if_pos (by decide), bt0, bt1]
  simp only [portcullisref01_begins.j0, portcullisref01_begins.j1, portcullisref01_begins.j2, hsz, if_true]
  show _ = some (decide (P2 (ub a) (ub b) ∨ P3 (ub a) (ub b) ∨ P4 (ub a) (ub b)))
  generalize ub a = a at *
  generalize ub b = b at *
  simp only [decide_eq_true_eq, Bool.false_eq_true, if_false, if_true, eq_self_iff_true]
  rcases (by omega : a < 194 ∨ (194 ≤ a ∧ a ≤ 223) ∨ a = 224 ∨ (225 ≤ a ∧ a ≤ 236) ∨ a = 237 ∨ (238 ≤ a ∧ a ≤ 239) ∨ a = 240 ∨ (241 ≤ a ∧ a ≤ 243) ∨ a = 244 ∨ 244 < a) with r | r | r | r | r | r | r | r | r | r
  all_goals (repeat (first | rw [if_pos (by omega)] | rw [if_neg (by omega)]))
  all_goals (refine some_dec (fun h => ?_) (fun h => ?_) <;> unfold P2 P3 P4 at h <;> (repeat (first | rw [if_pos (by omega)] | rw [if_neg (by omega)])))
  all_goals (repeat' split)
  all_goals first | rfl | (exfalso; omega) | (congr 1; rw [decide_eq_true_iff]; omega) | (congr 1; rw [decide_eq_false_iff_not]; omega)
set_option maxHeartbeats 4000000 in
theorem begins3 (k : Nat) (a b c : UInt8) : portcullisref01_begins.f (k + 4) (mkB [a, b, c]) = some (begL [a, b, c]) := by
  have ha := ub_rng a
  have hb := ub_rng b
  have hc := ub_rng c
  have hsz : ((mkB [a, b, c]).size : Int) = 3 := by rw [mkB_size]; rfl
  unfold portcullisref01_begins.f
  rw [hsz, if_pos (by decide), if_pos (by decide), bt0, bt1]
  simp only [portcullisref01_begins.j0, portcullisref01_begins.j1, portcullisref01_begins.j2, hsz, bt2, if_neg (show ¬ (3 : Int) = 2 by decide), if_pos (show (2 : Int) < 3 by decide)]
  show _ = some (decide ((P3 (ub a) (ub b) ∨ P4 (ub a) (ub b)) ∧ C8 (ub c)))
  generalize ub a = a at *
  generalize ub b = b at *
  generalize ub c = c at *
  simp only [decide_eq_true_eq, Bool.false_eq_true, if_false, if_true, eq_self_iff_true]
  rcases (by omega : a < 194 ∨ (194 ≤ a ∧ a ≤ 223) ∨ a = 224 ∨ (225 ≤ a ∧ a ≤ 236) ∨ a = 237 ∨ (238 ≤ a ∧ a ≤ 239) ∨ a = 240 ∨ (241 ≤ a ∧ a ≤ 243) ∨ a = 244 ∨ 244 < a) with r | r | r | r | r | r | r | r | r | r
  all_goals (repeat (first | rw [if_pos (by omega)] | rw [if_neg (by omega)]))
  all_goals (refine some_dec (fun h => ?_) (fun h => ?_) <;> unfold P3 P4 C8 at h <;> (repeat (first | rw [if_pos (by omega)] | rw [if_neg (by omega)])))
  all_goals (repeat' split)
  all_goals first | rfl | (exfalso; omega) | (congr 1; rw [decide_eq_true_iff]; omega) | (congr 1; rw [decide_eq_false_iff_not]; omega)
theorem begins_is (k : Nat) (t : List UInt8) (h : t.length = 2 ∨ t.length = 3) : portcullisref01_begins.f (k + 4) (mkB t) = some (begL t) := by
  match t, h with
  | [a, b], _ => exact begins2 k a b
  | [a, b, c], _ => exact begins3 k a b c
  | [], h => simp at h
  | [a], h => simp at h
  | a :: b :: c :: d :: r, h => simp at h
theorem nl0 (k : Nat) (t : List UInt8) (m : Nat) (h1 : 1 ≤ m) (h : m ≤ 4) (hl : m ≤ t.length) :
    portcullisref01_Next.l0 (k + 7) (mkB t) (m : Int) = if Whole (t.take m) then some (valL (t.take m), (m : Int), true) else portcullisref01_Next.l0 (k + 5) (mkB t) ((m + 1 : Nat) : Int) := by
  have hlt : (t.take m).length = m := by rw [List.length_take]; omega
  have hsz : ((mkB t).size : Int) = (t.length : Int) := by rw [mkB_size]
  rw [portcullisref01_Next.l0, if_pos (by omega), hsz, decide_eq_true (by omega), portcullisref01_Next.j1, if_pos rfl, if_pos (by omega), hsz, if_pos (by omega), Int.toNat_natCast, ext_take, whole_is k _ (by omega) (by omega), Option.bind_some, value_is k _ (by omega) (by omega), Option.bind_some, w64n m (by omega)]
  by_cases c : Whole (t.take m)
  · rw [if_pos c, if_pos (decide_eq_true c)]
  · rw [if_neg c, if_neg (by rw [decide_eq_false c]; decide)]
theorem nl0_end (k : Nat) (t : List UInt8) (m : Nat) (h : 4 < m ∨ t.length < m) : portcullisref01_Next.l0 (k + 2) (mkB t) (m : Int) = portcullisref01_Next.l1 k (mkB t) 1 := by
  have hsz : ((mkB t).size : Int) = (t.length : Int) := by rw [mkB_size]
  rw [portcullisref01_Next.l0, hsz]
  by_cases c : (m : Int) ≤ 4
  · rw [if_pos c, decide_eq_false (by omega), portcullisref01_Next.j1, if_neg (by decide)]
  · rw [if_neg c, portcullisref01_Next.j1, if_neg (by decide)]
theorem nl1 (k : Nat) (t : List UInt8) (m : Nat) (h1 : 1 ≤ m) :
    portcullisref01_Next.l1 (k + 5) (mkB t) (m : Int) = if m < t.length ∧ m < 3 then (if begL (t.take (m + 1)) = true then portcullisref01_Next.l1 (k + 4) (mkB t) ((m + 1 : Nat) : Int) else some (65533, (m : Int), false)) else some (65533, (m : Int), false) := by
  have hsz : ((mkB t).size : Int) = (t.length : Int) := by rw [mkB_size]
  rw [portcullisref01_Next.l1, hsz]
  by_cases c1 : m < t.length
  · rw [if_pos (by omega)]
    by_cases c2 : m < 3
    · rw [if_pos (by omega), w64n m (by omega), if_pos (by omega), if_pos (by omega), Int.toNat_natCast, ext_take, begins_is k _ (by rw [List.length_take]; omega), Option.bind_some, if_pos (show m < t.length ∧ m < 3 from ⟨c1, c2⟩)]
    · rw [if_neg (by omega), if_neg (by omega)]
  · rw [if_neg (by omega), if_neg (by omega)]
theorem nx1 (a : UInt8) : nxL [a] = if ub a < 128 then (ub a, 1, true) else (65533, 1, false) := rfl
theorem nx2 (a b : UInt8) : nxL [a, b] = if ub a < 128 then (ub a, 1, true) else if P2 (ub a) (ub b) then (v2 (ub a) (ub b), 2, true) else if P3 (ub a) (ub b) ∨ P4 (ub a) (ub b) then (65533, 2, false) else (65533, 1, false) := rfl
theorem nx3 (a b c : UInt8) : nxL [a, b, c] = if ub a < 128 then (ub a, 1, true) else if P2 (ub a) (ub b) then (v2 (ub a) (ub b), 2, true)
      else if P3 (ub a) (ub b) then (if C8 (ub c) then (v3 (ub a) (ub b) (ub c), 3, true) else (65533, 2, false))
      else if P4 (ub a) (ub b) then (if C8 (ub c) then (65533, 3, false) else (65533, 2, false)) else (65533, 1, false) := rfl
theorem nx4 (a b c d : UInt8) (r : List UInt8) : nxL (a :: b :: c :: d :: r) = if ub a < 128 then (ub a, 1, true) else if P2 (ub a) (ub b) then (v2 (ub a) (ub b), 2, true)
      else if P3 (ub a) (ub b) then (if C8 (ub c) then (v3 (ub a) (ub b) (ub c), 3, true) else (65533, 2, false))
      else if P4 (ub a) (ub b) then (if C8 (ub c) then (if C8 (ub d) then (v4 (ub a) (ub b) (ub c) (ub d), 4, true) else (65533, 3, false)) else (65533, 2, false)) else (65533, 1, false) := rfl
theorem refNext_is (k : Nat) (t : List UInt8) : portcullisref01_Next.f (k + 40) (mkB t) = some (nxL t) := by
  have hnil : (mkB t).toList = ([] : List UInt8) ↔ t = [] := by rw [Lib.toList_data, data_mkB]
  unfold portcullisref01_Next.f
  match t with
  | [] => rw [if_pos (hnil.2 rfl)]; rfl
  | [a] =>
    rw [if_neg (fun h => by cases hnil.1 h)]
    show portcullisref01_Next.l0 (k + 33 + 7) (mkB [a]) ((1 : Nat) : Int) = _
    rw [nl0 _ _ _ (by decide) (by decide) (by simp)]
    show (if Whole [a] then some (ub a, (1 : Int), true) else portcullisref01_Next.l0 (k + 36 + 2) (mkB [a]) ((2 : Nat) : Int)) = _
    rw [nl0_end _ _ _ (by simp)]
    show (if Whole [a] then some (ub a, (1 : Int), true) else portcullisref01_Next.l1 (k + 31 + 5) (mkB [a]) ((1 : Nat) : Int)) = some (if ub a < 128 then (ub a, 1, true) else (65533, 1, false))
    rw [nl1 _ _ _ (by decide), if_neg (show ¬ (1 < [a].length ∧ 1 < 3) by simp)]
    by_cases c : ub a < 128
    · rw [if_pos ((whole1 a).2 c), if_pos c]
    · rw [if_neg (fun h => c ((whole1 a).1 h)), if_neg c]; rfl
  | [a, b] =>
    rw [if_neg (fun h => by cases hnil.1 h)]
    show portcullisref01_Next.l0 (k + 33 + 7) (mkB [a, b]) ((1 : Nat) : Int) = _
    rw [nl0 _ _ _ (by decide) (by decide) (by simp)]
    show (if Whole [a] then some (ub a, (1 : Int), true) else portcullisref01_Next.l0 (k + 31 + 7) (mkB [a, b]) ((2 : Nat) : Int)) = _
    rw [nl0 _ _ _ (by decide) (by decide) (by simp)]
    show (if Whole [a] then some (ub a, (1 : Int), true) else if Whole [a, b] then some (v2 (ub a) (ub b), (2 : Int), true) else portcullisref01_Next.l0 (k + 34 + 2) (mkB [a, b]) ((3 : Nat) : Int)) = _
    rw [nl0_end _ _ _ (by simp)]
    show (if Whole [a] then some (ub a, (1 : Int), true) else if Whole [a, b] then some (v2 (ub a) (ub b), (2 : Int), true) else portcullisref01_Next.l1 (k + 29 + 5) (mkB [a, b]) ((1 : Nat) : Int)) = _
    rw [nl1 _ _ _ (by decide), if_pos (show 1 < [a, b].length ∧ 1 < 3 by simp)]
    show (if Whole [a] then some (ub a, (1 : Int), true) else if Whole [a, b] then some (v2 (ub a) (ub b), (2 : Int), true) else if begL [a, b] = true then portcullisref01_Next.l1 (k + 28 + 5) (mkB [a, b]) ((2 : Nat) : Int) else some (65533, 1, false)) = _
    rw [nl1 _ _ _ (by decide), if_neg (show ¬ (2 < [a, b].length ∧ 2 < 3) by simp)]
    rw [nx2]
    by_cases c : ub a < 128
    · rw [if_pos ((whole1 a).2 c), if_pos c]
    · rw [if_neg (fun h => c ((whole1 a).1 h)), if_neg c]
      by_cases c2 : P2 (ub a) (ub b)
      · rw [if_pos ((whole2 a b).2 c2), if_pos c2]
      · rw [if_neg (fun h => c2 ((whole2 a b).1 h)), if_neg c2]
        by_cases c3 : P3 (ub a) (ub b) ∨ P4 (ub a) (ub b)
        · rw [if_pos (show begL [a, b] = true from decide_eq_true (.inr c3)), if_pos c3]; rfl
        · rw [if_neg (show ¬ begL [a, b] = true from fun h => by rcases of_decide_eq_true h with h | h; exact c2 h; exact c3 h), if_neg c3]
  | [a, b, c] =>
    rw [if_neg (fun h => by cases hnil.1 h)]
    show portcullisref01_Next.l0 (k + 33 + 7) (mkB [a, b, c]) ((1 : Nat) : Int) = _
    rw [nl0 _ _ _ (by decide) (by decide) (by simp)]
    show (if Whole [a] then some (ub a, (1 : Int), true) else portcullisref01_Next.l0 (k + 31 + 7) (mkB [a, b, c]) ((2 : Nat) : Int)) = _
    rw [nl0 _ _ _ (by decide) (by decide) (by simp)]
    show (if Whole [a] then some (ub a, (1 : Int), true) else if Whole [a, b] then some (v2 (ub a) (ub b), (2 : Int), true) else portcullisref01_Next.l0 (k + 29 + 7) (mkB [a, b, c]) ((3 : Nat) : Int)) = _
    rw [nl0 _ _ _ (by decide) (by decide) (by simp)]
    show (if Whole [a] then some (ub a, (1 : Int), true) else if Whole [a, b] then some (v2 (ub a) (ub b), (2 : Int), true) else if Whole [a, b, c] then some (v3 (ub a) (ub b) (ub c), (3 : Int), true) else portcullisref01_Next.l0 (k + 32 + 2) (mkB [a, b, c]) ((4 : Nat) : Int)) = _
    rw [nl0_end _ _ _ (by simp)]
    show (if Whole [a] then some (ub a, (1 : Int), true) else if Whole [a, b] then some (v2 (ub a) (ub b), (2 : Int), true) else if Whole [a, b, c] then some (v3 (ub a) (ub b) (ub c), (3 : Int), true) else portcullisref01_Next.l1 (k + 27 + 5) (mkB [a, b, c]) ((1 : Nat) : Int)) = _
    rw [nl1 _ _ _ (by decide), if_pos (show 1 < [a, b, c].length ∧ 1 < 3 by simp)]
    show (if Whole [a] then some (ub a, (1 : Int), true) else if Whole [a, b] then some (v2 (ub a) (ub b), (2 : Int), true) else if Whole [a, b, c] then some (v3 (ub a) (ub b) (ub c), (3 : Int), true) else if begL [a, b] = true then portcullisref01_Next.l1 (k + 26 + 5) (mkB [a, b, c]) ((2 : Nat) : Int) else some (65533, 1, false)) = _
    rw [nl1 _ _ _ (by decide), if_pos (show 2 < [a, b, c].length ∧ 2 < 3 by simp)]
    show (if Whole [a] then some (ub a, (1 : Int), true) else if Whole [a, b] then some (v2 (ub a) (ub b), (2 : Int), true) else if Whole [a, b, c] then some (v3 (ub a) (ub b) (ub c), (3 : Int), true) else if begL [a, b] = true then (if begL [a, b, c] = true then portcullisref01_Next.l1 (k + 25 + 5) (mkB [a, b, c]) ((3 : Nat) : Int) else some (65533, 2, false)) else some (65533, 1, false)) = _
    rw [nl1 _ _ _ (by decide), if_neg (show ¬ (3 < [a, b, c].length ∧ 3 < 3) by simp)]
    rw [nx3]
    by_cases c0 : ub a < 128
    · rw [if_pos ((whole1 a).2 c0), if_pos c0]
    · rw [if_neg (fun h => c0 ((whole1 a).1 h)), if_neg c0]
      by_cases c2 : P2 (ub a) (ub b)
      · rw [if_pos ((whole2 a b).2 c2), if_pos c2]
      · rw [if_neg (fun h => c2 ((whole2 a b).1 h)), if_neg c2]
        by_cases c3 : P3 (ub a) (ub b)
        · rw [if_pos (show begL [a, b] = true from decide_eq_true (.inr (.inl c3))), if_pos c3]
          by_cases c8 : C8 (ub c)
          · rw [if_pos ((whole3 a b c).2 ⟨c3, c8⟩), if_pos c8]
          · rw [if_neg (fun h => c8 ((whole3 a b c).1 h).2), if_neg c8, if_neg (show ¬ begL [a, b, c] = true from fun h => c8 (of_decide_eq_true h).2)]
        · rw [if_neg (fun h => c3 ((whole3 a b c).1 h).1), if_neg c3]
          by_cases c4 : P4 (ub a) (ub b)
          · rw [if_pos (show begL [a, b] = true from decide_eq_true (.inr (.inr c4))), if_pos c4]
            by_cases c8 : C8 (ub c)
            · rw [if_pos (show begL [a, b, c] = true from decide_eq_true ⟨.inr c4, c8⟩), if_pos c8]; rfl
            · rw [if_neg c8, if_neg (show ¬ begL [a, b, c] = true from fun h => c8 (of_decide_eq_true h).2)]
          · rw [if_neg (show ¬ begL [a, b] = true from fun h => by rcases of_decide_eq_true h with h | h | h; exact c2 h; exact c3 h; exact c4 h), if_neg c4]
  | a :: b :: c :: d :: r =>
    rw [if_neg (fun h => by cases hnil.1 h)]
    show portcullisref01_Next.l0 (k + 33 + 7) (mkB (a :: b :: c :: d :: r)) ((1 : Nat) : Int) = _
    rw [nl0 _ _ _ (by decide) (by decide) (by simp)]
    show (if Whole [a] then some (ub a, (1 : Int), true) else portcullisref01_Next.l0 (k + 31 + 7) (mkB (a :: b :: c :: d :: r)) ((2 : Nat) : Int)) = _
    rw [nl0 _ _ _ (by decide) (by decide) (by simp)]
    show (if Whole [a] then some (ub a, (1 : Int), true) else if Whole [a, b] then some (v2 (ub a) (ub b), (2 : Int), true) else portcullisref01_Next.l0 (k + 29 + 7) (mkB (a :: b :: c :: d :: r)) ((3 : Nat) : Int)) = _
    rw [nl0 _ _ _ (by decide) (by decide) (by simp)]
    show (if Whole [a] then some (ub a, (1 : Int), true) else if Whole [a, b] then some (v2 (ub a) (ub b), (2 : Int), true) else if Whole [a, b, c] then some (v3 (ub a) (ub b) (ub c), (3 : Int), true) else portcullisref01_Next.l0 (k + 27 + 7) (mkB (a :: b :: c :: d :: r)) ((4 : Nat) : Int)) = _
    rw [nl0 _ _ _ (by decide) (by decide) (by simp)]
    show (if Whole [a] then some (ub a, (1 : Int), true) else if Whole [a, b] then some (v2 (ub a) (ub b), (2 : Int), true) else if Whole [a, b, c] then some (v3 (ub a) (ub b) (ub c), (3 : Int), true) else if Whole [a, b, c, d] then some (v4 (ub a) (ub b) (ub c) (ub d), (4 : Int), true) else portcullisref01_Next.l0 (k + 30 + 2) (mkB (a :: b :: c :: d :: r)) ((5 : Nat) : Int)) = _
    rw [nl0_end _ _ _ (by simp)]
    show (if Whole [a] then some (ub a, (1 : Int), true) else if Whole [a, b] then some (v2 (ub a) (ub b), (2 : Int), true) else if Whole [a, b, c] then some (v3 (ub a) (ub b) (ub c), (3 : Int), true) else if Whole [a, b, c, d] then some (v4 (ub a) (ub b) (ub c) (ub d), (4 : Int), true) else portcullisref01_Next.l1 (k + 25 + 5) (mkB (a :: b :: c :: d :: r)) ((1 : Nat) : Int)) = _
    rw [nl1 _ _ _ (by decide), if_pos (show 1 < (a :: b :: c :: d :: r).length ∧ 1 < 3 by simp)]
    show (if Whole [a] then some (ub a, (1 : Int), true) else if Whole [a, b] then some (v2 (ub a) (ub b), (2 : Int), true) else if Whole [a, b, c] then some (v3 (ub a) (ub b) (ub c), (3 : Int), true) else if Whole [a, b, c, d] then some (v4 (ub a) (ub b) (ub c) (ub d), (4 : Int), true) else if begL [a, b] = true then portcullisref01_Next.l1 (k + 24 + 5) (mkB (a :: b :: c :: d :: r)) ((2 : Nat) : Int) else some (65533, 1, false)) = _
    rw [nl1 _ _ _ (by decide), if_pos (show 2 < (a :: b :: c :: d :: r).length ∧ 2 < 3 by simp)]
    show (if Whole [a] then some (ub a, (1 : Int), true) else if Whole [a, b] then some (v2 (ub a) (ub b), (2 : Int), true) else if Whole [a, b, c] then some (v3 (ub a) (ub b) (ub c), (3 : Int), true) else if Whole [a, b, c, d] then some (v4 (ub a) (ub b) (ub c) (ub d), (4 : Int), true) else if begL [a, b] = true then (if begL [a, b, c] = true then portcullisref01_Next.l1 (k + 23 + 5) (mkB (a :: b :: c :: d :: r)) ((3 : Nat) : Int) else some (65533, 2, false)) else some (65533, 1, false)) = _
    rw [nl1 _ _ _ (by decide), if_neg (show ¬ (3 < (a :: b :: c :: d :: r).length ∧ 3 < 3) by simp)]
    rw [nx4]
    by_cases c0 : ub a < 128
    · rw [if_pos ((whole1 a).2 c0), if_pos c0]
    · rw [if_neg (fun h => c0 ((whole1 a).1 h)), if_neg c0]
      by_cases c2 : P2 (ub a) (ub b)
      · rw [if_pos ((whole2 a b).2 c2), if_pos c2]
      · rw [if_neg (fun h => c2 ((whole2 a b).1 h)), if_neg c2]
        by_cases c3 : P3 (ub a) (ub b)
        · have c4 : ¬ P4 (ub a) (ub b) := by unfold P3 at c3; unfold P4; omega
          rw [if_pos (show begL [a, b] = true from decide_eq_true (.inr (.inl c3))), if_pos c3]
          by_cases c8 : C8 (ub c)
          · rw [if_pos ((whole3 a b c).2 ⟨c3, c8⟩), if_pos c8]
          · rw [if_neg (fun h => c8 ((whole3 a b c).1 h).2), if_neg c8, if_neg (fun h => c4 ((whole4 a b c d).1 h).1), if_neg (show ¬ begL [a, b, c] = true from fun h => c8 (of_decide_eq_true h).2)]
        · rw [if_neg (fun h => c3 ((whole3 a b c).1 h).1), if_neg c3]
          by_cases c4 : P4 (ub a) (ub b)
          · rw [if_pos (show begL [a, b] = true from decide_eq_true (.inr (.inr c4))), if_pos c4]
            by_cases c8 : C8 (ub c)
            · rw [if_pos (show begL [a, b, c] = true from decide_eq_true ⟨.inr c4, c8⟩), if_pos c8]
              by_cases d8 : C8 (ub d)
              · rw [if_pos ((whole4 a b c d).2 ⟨c4, c8, d8⟩), if_pos d8]
              · rw [if_neg (fun h => d8 ((whole4 a b c d).1 h).2.2), if_neg d8]; rfl
            · rw [if_neg c8, if_neg (fun h => c8 ((whole4 a b c d).1 h).2.1), if_neg (show ¬ begL [a, b, c] = true from fun h => c8 (of_decide_eq_true h).2)]
          · rw [if_neg (fun h => c4 ((whole4 a b c d).1 h).1), if_neg (show ¬ begL [a, b] = true from fun h => by rcases of_decide_eq_true h with h | h | h; exact c2 h; exact c3 h; exact c4 h), if_neg c4]

theorem room_is (k : Nat) (a : Int) (h : 0 ≤ a) (h2 : a ≤ 255) : utf_room.f (k + 5) a = some (if a < 128 then (0, 0, 1) else if 194 ≤ a ∧ a ≤ 223 then (128, 191, 2) else if 224 ≤ a ∧ a ≤ 239 then ((if a = 224 then 160 else 128), (if a = 237 then 159 else 191), 3)
    else if 240 ≤ a ∧ a ≤ 244 then ((if a = 240 then 144 else 128), (if a = 244 then 143 else 191), 4) else (0, 0, 0)) := by
  unfold utf_room.f
  simp only [utf_room.j0, utf_room.j1, utf_room.j2, decide_eq_true_eq, Bool.false_eq_true, if_false]
  rcases (by omega : a < 128 ∨ (128 ≤ a ∧ a < 194) ∨ (194 ≤ a ∧ a ≤ 223) ∨ a = 224 ∨ (225 ≤ a ∧ a ≤ 236) ∨ a = 237 ∨ (238 ≤ a ∧ a ≤ 239) ∨ a = 240 ∨ (241 ≤ a ∧ a ≤ 243) ∨ a = 244 ∨ 244 < a) with r | r | r | r | r | r | r | r | r | r | r
  all_goals (repeat (first | rw [if_pos (by omega)] | rw [if_neg (by omega)]))
theorem un (k : Nat) (t : List UInt8) (lo hi all : Int) (i : Nat) (h1 : 1 ≤ i) (hl : i ≤ t.length) (hs : t.length ≤ 1000000000) :
    utf_Next.l0 (k + 1) (mkB t) lo hi all (i : Int) = if (i : Int) < all ∧ i < t.length ∧ lo ≤ bt (mkB t) (i : Int) ∧ bt (mkB t) (i : Int) ≤ hi then utf_Next.l0 k (mkB t) 128 191 all ((i + 1 : Nat) : Int)
      else if (i : Int) = all then some (((Lib.decodeGo (mkB (t.take i))).1 : Int), (i : Int), true) else some (65533, (i : Int), false) := by
  have hsz : ((mkB t).size : Int) = (t.length : Int) := by rw [mkB_size]
  rw [utf_Next.l0, hsz]
  have e : ∀ x : Int, x = (i : Int) → ((utf8_DecodeRuneInString.f ((mkB t).extract 0 (i : Int).toNat)).bind fun bt506 => (some (bt506.1, x, true))) = some (((Lib.decodeGo (mkB (t.take i))).1 : Int), (i : Int), true) := by
    rintro x rfl
    rw [Int.toNat_natCast, ext_take]
    rfl
  rw [e _ rfl, w64n i (by omega)]
  generalize bt (mkB t) (i : Int) = b
  by_cases c1 : (i : Int) < all
  · have hne : ¬ (i : Int) = all := by omega
    rw [if_pos c1]
    by_cases c2 : i < t.length
    · rw [if_pos (show (i : Int) < (t.length : Int) by omega), if_pos (show (0 : Int) ≤ (i : Int) by omega)]
      by_cases c3 : b ≥ lo
      · rw [if_pos c3]
        by_cases c4 : b ≤ hi
        · rw [if_pos c4, if_pos (show (i : Int) < all ∧ i < t.length ∧ lo ≤ b ∧ b ≤ hi from ⟨c1, c2, c3, c4⟩)]
        · rw [if_neg c4, if_neg (show ¬ ((i : Int) < all ∧ i < t.length ∧ lo ≤ b ∧ b ≤ hi) from fun h => c4 h.2.2.2), if_neg hne, if_neg hne]
      · rw [if_neg c3, if_neg (show ¬ ((i : Int) < all ∧ i < t.length ∧ lo ≤ b ∧ b ≤ hi) from fun h => c3 h.2.2.1), if_neg hne, if_neg hne]
    · rw [if_neg (show ¬ (i : Int) < (t.length : Int) by omega), if_neg (show ¬ ((i : Int) < all ∧ i < t.length ∧ lo ≤ b ∧ b ≤ hi) from fun h => c2 h.2.1), if_neg hne, if_neg hne]
  · rw [if_neg c1, if_neg (show ¬ ((i : Int) < all ∧ i < t.length ∧ lo ≤ b ∧ b ≤ hi) from fun h => c1 h.1)]
    by_cases c5 : (i : Int) = all
    · rw [if_pos c5, if_pos (show (0 : Int) ≤ (i : Int) by omega), if_pos (show (i : Int) ≤ (t.length : Int) by omega), if_pos c5]
    · rw [if_neg c5, if_neg c5]
theorem g0 (a : UInt8) (r : List UInt8) : (mkB (a :: r)).get! 0 = a := by unfold mkB ByteArray.get!; rfl
theorem g1 (a b : UInt8) (r : List UInt8) : (mkB (a :: b :: r)).get! 1 = b := by unfold mkB ByteArray.get!; rfl
theorem g2 (a b c : UInt8) (r : List UInt8) : (mkB (a :: b :: c :: r)).get! 2 = c := by unfold mkB ByteArray.get!; rfl
theorem g3 (a b c d : UInt8) (r : List UInt8) : (mkB (a :: b :: c :: d :: r)).get! 3 = d := by unfold mkB ByteArray.get!; rfl
theorem dec1 (a : UInt8) (h : ub a < 128) : ((Lib.decodeGo (mkB [a])).1 : Int) = ub a := by
  unfold Lib.decodeGo
  rw [if_neg (by rw [mkB_size]; simp), Lib.decode_at, mkB_size, Nat.zero_add, Nat.zero_add, Nat.zero_add, g0]
  unfold Lib.decodeN
  unfold ub at h
  rw [if_pos (by omega)]
theorem dec2 (a b : UInt8) (h : P2 (ub a) (ub b)) : ((Lib.decodeGo (mkB [a, b])).1 : Int) = v2 (ub a) (ub b) := by
  unfold Lib.decodeGo
  rw [if_neg (by rw [mkB_size]; simp), Lib.decode_at, mkB_size, Nat.zero_add, Nat.zero_add, Nat.zero_add, g0, g1]
  unfold Lib.decodeN
  unfold P2 ub at h
  unfold v2 ub
  show ((if _ then _ else _ : Nat × Nat).1 : Int) = _
  rw [if_neg (by omega), if_pos (by simp only [List.length_cons, List.length_nil]; omega), if_pos (by omega)]
  show (((a.toNat % 32 * 64 + b.toNat % 64 : Nat)) : Int) = _
  omega
theorem dec3 (a b c : UInt8) (h : P3 (ub a) (ub b)) (h8 : C8 (ub c)) : ((Lib.decodeGo (mkB [a, b, c])).1 : Int) = v3 (ub a) (ub b) (ub c) := by
  unfold Lib.decodeGo
  rw [if_neg (by rw [mkB_size]; simp), Lib.decode_at, mkB_size, Nat.zero_add, Nat.zero_add, Nat.zero_add, g0, g1, g2]
  unfold Lib.decodeN
  unfold P3 ub at h
  unfold C8 ub at h8
  unfold v3 ub
  rw [if_neg (by omega), if_neg (by omega), if_pos (by simp only [List.length_cons, List.length_nil]; omega), if_pos (by omega)]
  show (((a.toNat % 16 * 4096 + b.toNat % 64 * 64 + c.toNat % 64 : Nat)) : Int) = _
  omega
theorem dec4 (a b c d : UInt8) (h : P4 (ub a) (ub b)) (h8 : C8 (ub c)) (d8 : C8 (ub d)) : ((Lib.decodeGo (mkB [a, b, c, d])).1 : Int) = v4 (ub a) (ub b) (ub c) (ub d) := by
  unfold Lib.decodeGo
  rw [if_neg (by rw [mkB_size]; simp), Lib.decode_at, mkB_size, Nat.zero_add, Nat.zero_add, Nat.zero_add, g0, g1, g2, g3]
  unfold Lib.decodeN
  unfold P4 ub at h
  unfold C8 ub at h8 d8
  unfold v4 ub
  rw [if_neg (by omega), if_neg (by omega), if_neg (by omega), if_pos (by simp only [List.length_cons, List.length_nil]; omega), if_pos (by omega)]
  show (((a.toNat % 8 * 262144 + b.toNat % 64 * 4096 + c.toNat % 64 * 64 + d.toNat % 64 : Nat)) : Int) = _
  omega
theorem u1 (t : List UInt8) (lo hi all : Int) (h : 1 ≤ t.length) (hs : t.length ≤ 1000000000) : utf_Next.l0 20 (mkB t) lo hi all 1 = if (1 : Int) < all ∧ 1 < t.length ∧ lo ≤ bt (mkB t) 1 ∧ bt (mkB t) 1 ≤ hi then utf_Next.l0 19 (mkB t) 128 191 all 2
      else if (1 : Int) = all then some (((Lib.decodeGo (mkB (t.take 1))).1 : Int), 1, true) else some (65533, 1, false) := un 19 t lo hi all 1 (by omega) h hs
theorem u2 (t : List UInt8) (lo hi all : Int) (h : 2 ≤ t.length) (hs : t.length ≤ 1000000000) : utf_Next.l0 19 (mkB t) lo hi all 2 = if (2 : Int) < all ∧ 2 < t.length ∧ lo ≤ bt (mkB t) 2 ∧ bt (mkB t) 2 ≤ hi then utf_Next.l0 18 (mkB t) 128 191 all 3
      else if (2 : Int) = all then some (((Lib.decodeGo (mkB (t.take 2))).1 : Int), 2, true) else some (65533, 2, false) := un 18 t lo hi all 2 (by omega) h hs
theorem u3 (t : List UInt8) (lo hi all : Int) (h : 3 ≤ t.length) (hs : t.length ≤ 1000000000) : utf_Next.l0 18 (mkB t) lo hi all 3 = if (3 : Int) < all ∧ 3 < t.length ∧ lo ≤ bt (mkB t) 3 ∧ bt (mkB t) 3 ≤ hi then utf_Next.l0 17 (mkB t) 128 191 all 4
      else if (3 : Int) = all then some (((Lib.decodeGo (mkB (t.take 3))).1 : Int), 3, true) else some (65533, 3, false) := un 17 t lo hi all 3 (by omega) h hs
theorem u4 (t : List UInt8) (lo hi : Int) (h : 4 ≤ t.length) (hs : t.length ≤ 1000000000) : utf_Next.l0 17 (mkB t) lo hi 4 4 = some (((Lib.decodeGo (mkB (t.take 4))).1 : Int), 4, true) := by
  have := un 16 t lo hi 4 4 (by omega) h hs
  rw [if_neg (fun h => by have := h.1; omega)] at this
  exact this
theorem u_bad {a : UInt8} {r : List UInt8} (hs : (a :: r).length ≤ 1000000000) (lo hi all : Int) (h1 : 1 < all) (e : nxL (a :: r) = (65533, 1, false)) (h : ¬ (1 < (a :: r).length ∧ lo ≤ bt (mkB (a :: r)) 1 ∧ bt (mkB (a :: r)) 1 ≤ hi)) :
    utf_Next.l0 20 (mkB (a :: r)) lo hi all 1 = some (nxL (a :: r)) := by
  rw [u1 _ _ _ _ (by simp) hs, if_neg (fun h2 => h h2.2), if_neg (by omega), e]
theorem utfNext_is (t : List UInt8) (hs : t.length ≤ 1000000000) : utf_Next.f 20 (mkB t) = some (nxL t) := by
  have hnil : (mkB t).toList = ([] : List UInt8) ↔ t = [] := by rw [Lib.toList_data, data_mkB]
  have HS := Aside0.mk hs
  clear hs
  unfold utf_Next.f
  cases t with
  | nil => rw [if_pos (hnil.2 rfl)]; rfl
  | cons a r =>
    have hsz : ((mkB (a :: r)).size : Int) = (r.length : Int) + 1 := by rw [mkB_size]; rfl
    have ha := ub_rng a
    have hl1 : 1 ≤ (a :: r).length := by simp
    rw [if_neg (fun h => by cases hnil.1 h), hsz, if_pos (by omega), bt0, room_is 15 _ ha.1 ha.2, Option.bind_some]
    by_cases c0 : ub a < 128
    · have e : nxL (a :: r) = (ub a, 1, true) := by
        match r with
        | [] => rw [nx1, if_pos c0]
        | [b] => rw [nx2, if_pos c0]
        | [b, c] => rw [nx3, if_pos c0]
        | b :: c :: d :: r => rw [nx4, if_pos c0]
      rw [if_pos c0, e]
      dsimp only
      rw [u1 _ _ _ _ hl1 HS.out, if_neg (fun h => by have := h.1; omega), if_pos rfl]
      show some (((Lib.decodeGo (mkB [a])).1 : Int), (1 : Int), true) = _
      rw [dec1 a c0]
    · rw [if_neg c0]
      by_cases r2 : 194 ≤ ub a ∧ ub a ≤ 223
      · rw [if_pos r2]
        dsimp only
        have n3 : ∀ b, ¬ P3 (ub a) b := fun b h => by unfold P3 at h; omega
        have n4 : ∀ b, ¬ P4 (ub a) b := fun b h => by unfold P4 at h; omega
        match r with
        | [] => exact u_bad HS.out _ _ _ (by omega) (by rw [nx1, if_neg c0]) (fun h => by simp at h)
        | b :: r =>
          by_cases c2 : P2 (ub a) (ub b)
          · have e : nxL (a :: b :: r) = (v2 (ub a) (ub b), 2, true) := by
              match r with
              | [] => rw [nx2, if_neg c0, if_pos c2]
              | [c] => rw [nx3, if_neg c0, if_pos c2]
              | c :: d :: r => rw [nx4, if_neg c0, if_pos c2]
            rw [e, u1 _ _ _ _ hl1 HS.out, if_pos ⟨by omega, by simp, by rw [bt1]; exact c2.2.2.1, by rw [bt1]; exact c2.2.2.2⟩, u2 _ _ _ _ (by simp) HS.out, if_neg (fun h => by have := h.1; omega), if_pos rfl]
            show some (((Lib.decodeGo (mkB [a, b])).1 : Int), (2 : Int), true) = _
            rw [dec2 a b c2]
          · refine u_bad HS.out _ _ _ (by omega) ?_ (fun h => c2 ⟨r2.1, r2.2, by have := h.2.1; rw [bt1] at this; exact this, by have := h.2.2; rw [bt1] at this; exact this⟩)
            match r with
            | [] => rw [nx2, if_neg c0, if_neg c2, if_neg (fun h => h.elim (n3 _) (n4 _))]
            | [c] => rw [nx3, if_neg c0, if_neg c2, if_neg (n3 _), if_neg (n4 _)]
            | c :: d :: r => rw [nx4, if_neg c0, if_neg c2, if_neg (n3 _), if_neg (n4 _)]
      · rw [if_neg r2]
        have n2 : ∀ b, ¬ P2 (ub a) b := fun b h => r2 ⟨h.1, h.2.1⟩
        by_cases r3 : 224 ≤ ub a ∧ ub a ≤ 239
        · rw [if_pos r3]
          dsimp only
          have n4 : ∀ b, ¬ P4 (ub a) b := fun b h => by unfold P4 at h; omega
          have hp : ∀ b : Int, P3 (ub a) b ↔ (if ub a = 224 then (160 : Int) else 128) ≤ b ∧ b ≤ (if ub a = 237 then (159 : Int) else 191) := fun b => by
            unfold P3
            split <;> split <;> omega
          match r with
          | [] => exact u_bad HS.out _ _ _ (by omega) (by rw [nx1, if_neg c0]) (fun h => by simp at h)
          | b :: r =>
            by_cases c3 : P3 (ub a) (ub b)
            · have hb := (hp _).1 c3
              rw [u1 _ _ _ _ hl1 HS.out, if_pos ⟨by omega, by simp, by rw [bt1]; exact hb.1, by rw [bt1]; exact hb.2⟩]
              match r with
              | [] =>
                rw [u2 _ _ _ _ (by simp) HS.out, if_neg (fun h => by have := h.2.1; simp at this), if_neg (by omega), nx2, if_neg c0, if_neg (n2 _), if_pos (.inl c3)]
              | c :: r =>
                by_cases c8 : C8 (ub c)
                · have e : nxL (a :: b :: c :: r) = (v3 (ub a) (ub b) (ub c), 3, true) := by
                    match r with
                    | [] => rw [nx3, if_neg c0, if_neg (n2 _), if_pos c3, if_pos c8]
                    | d :: r => rw [nx4, if_neg c0, if_neg (n2 _), if_pos c3, if_pos c8]
                  rw [e, u2 _ _ _ _ (by simp) HS.out, if_pos ⟨by omega, by simp, by rw [bt2]; exact c8.1, by rw [bt2]; exact c8.2⟩, u3 _ _ _ _ (by simp) HS.out, if_neg (fun h => by have := h.1; omega), if_pos rfl]
                  show some (((Lib.decodeGo (mkB [a, b, c])).1 : Int), (3 : Int), true) = _
                  rw [dec3 a b c c3 c8]
                · have e : nxL (a :: b :: c :: r) = (65533, 2, false) := by
                    match r with
                    | [] => rw [nx3, if_neg c0, if_neg (n2 _), if_pos c3, if_neg c8]
                    | d :: r => rw [nx4, if_neg c0, if_neg (n2 _), if_pos c3, if_neg c8]
                  rw [e, u2 _ _ _ _ (by simp) HS.out, if_neg (fun h => c8 ⟨by have := h.2.2.1; rw [bt2] at this; exact this, by have := h.2.2.2; rw [bt2] at this; exact this⟩), if_neg (by omega)]
            · refine u_bad HS.out _ _ _ (by omega) ?_ (fun h => c3 ((hp _).2 ⟨by have := h.2.1; rw [bt1] at this; exact this, by have := h.2.2; rw [bt1] at this; exact this⟩))
              match r with
              | [] => rw [nx2, if_neg c0, if_neg (n2 _), if_neg (fun h => h.elim c3 (n4 _))]
              | [c] => rw [nx3, if_neg c0, if_neg (n2 _), if_neg c3, if_neg (n4 _)]
              | c :: d :: r => rw [nx4, if_neg c0, if_neg (n2 _), if_neg c3, if_neg (n4 _)]
        · rw [if_neg r3]
          have n3 : ∀ b, ¬ P3 (ub a) b := fun b h => r3 ⟨h.1, h.2.1⟩
          by_cases r4 : 240 ≤ ub a ∧ ub a ≤ 244
          · rw [if_pos r4]
            dsimp only
            have hp : ∀ b : Int, P4 (ub a) b ↔ (if ub a = 240 then (144 : Int) else 128) ≤ b ∧ b ≤ (if ub a = 244 then (143 : Int) else 191) := fun b => by
              unfold P4
              split <;> split <;> omega
            match r with
            | [] => exact u_bad HS.out _ _ _ (by omega) (by rw [nx1, if_neg c0]) (fun h => by simp at h)
            | b :: r =>
              by_cases c4 : P4 (ub a) (ub b)
              · have hb := (hp _).1 c4
                rw [u1 _ _ _ _ hl1 HS.out, if_pos ⟨by omega, by simp, by rw [bt1]; exact hb.1, by rw [bt1]; exact hb.2⟩]
                match r with
                | [] =>
                  rw [u2 _ _ _ _ (by simp) HS.out, if_neg (fun h => by have := h.2.1; simp at this), if_neg (by omega), nx2, if_neg c0, if_neg (n2 _), if_pos (.inr c4)]
                | c :: r =>
                  by_cases c8 : C8 (ub c)
                  · rw [u2 _ _ _ _ (by simp) HS.out, if_pos ⟨by omega, by simp, by rw [bt2]; exact c8.1, by rw [bt2]; exact c8.2⟩]
                    match r with
                    | [] => rw [u3 _ _ _ _ (by simp) HS.out, if_neg (fun h => by have := h.2.1; simp at this), if_neg (by omega), nx3, if_neg c0, if_neg (n2 _), if_neg (n3 _), if_pos c4, if_pos c8]
                    | d :: r =>
                      by_cases d8 : C8 (ub d)
                      · rw [u3 _ _ _ _ (by simp) HS.out, if_pos ⟨by omega, by simp, by rw [bt3]; exact d8.1, by rw [bt3]; exact d8.2⟩, u4 _ _ _ (by simp) HS.out, nx4, if_neg c0, if_neg (n2 _), if_neg (n3 _), if_pos c4, if_pos c8, if_pos d8]
                        show some (((Lib.decodeGo (mkB [a, b, c, d])).1 : Int), (4 : Int), true) = _
                        rw [dec4 a b c d c4 c8 d8]
                      · rw [u3 _ _ _ _ (by simp) HS.out, if_neg (fun h => d8 ⟨by have := h.2.2.1; rw [bt3] at this; exact this, by have := h.2.2.2; rw [bt3] at this; exact this⟩), if_neg (by omega), nx4, if_neg c0, if_neg (n2 _), if_neg (n3 _), if_pos c4, if_pos c8, if_neg d8]
                  · have e : nxL (a :: b :: c :: r) = (65533, 2, false) := by
                      match r with
                      | [] => rw [nx3, if_neg c0, if_neg (n2 _), if_neg (n3 _), if_pos c4, if_neg c8]
                      | d :: r => rw [nx4, if_neg c0, if_neg (n2 _), if_neg (n3 _), if_pos c4, if_neg c8]
                    rw [e, u2 _ _ _ _ (by simp) HS.out, if_neg (fun h => c8 ⟨by have := h.2.2.1; rw [bt2] at this; exact this, by have := h.2.2.2; rw [bt2] at this; exact this⟩), if_neg (by omega)]
              · refine u_bad HS.out _ _ _ (by omega) ?_ (fun h => c4 ((hp _).2 ⟨by have := h.2.1; rw [bt1] at this; exact this, by have := h.2.2; rw [bt1] at this; exact this⟩))
                match r with
                | [] => rw [nx2, if_neg c0, if_neg (n2 _), if_neg (fun h => h.elim (n3 _) c4)]
                | [c] => rw [nx3, if_neg c0, if_neg (n2 _), if_neg (n3 _), if_neg c4]
                | c :: d :: r => rw [nx4, if_neg c0, if_neg (n2 _), if_neg (n3 _), if_neg c4]
          · rw [if_neg r4]
            dsimp only
            have n4 : ∀ b, ¬ P4 (ub a) b := fun b h => r4 ⟨h.1, h.2.1⟩
            have e : nxL (a :: r) = (65533, 1, false) := by
              match r with
              | [] => rw [nx1, if_neg c0]
              | [b] => rw [nx2, if_neg c0, if_neg (n2 _), if_neg (fun h => h.elim (n3 _) (n4 _))]
              | [b, c] => rw [nx3, if_neg c0, if_neg (n2 _), if_neg (n3 _), if_neg (n4 _)]
              | b :: c :: d :: r => rw [nx4, if_neg c0, if_neg (n2 _), if_neg (n3 _), if_neg (n4 _)]
            rw [e, u1 _ _ _ _ hl1 HS.out, if_neg (fun h => by have := h.1; omega), if_neg (by omega)]

theorem nx_len {t : List UInt8} (h : t ≠ []) : 1 ≤ (nxL t).2.1 ∧ (nxL t).2.1 ≤ (t.length : Int) := by
  match t, h with
  | [a], _ => rw [nx1]; split <;> simp
  | [a, b], _ => rw [nx2]; repeat' split
                 all_goals simp
  | [a, b, c], _ => rw [nx3]; repeat' split
                    all_goals simp
  | a :: b :: c :: d :: r, _ => rw [nx4]; repeat' split
                                all_goals simp
                                all_goals omega
def decL : Nat → List UInt8 → List Int
  | 0, _ => []
  | f + 1, t => if t = [] then [] else (nxL t).1 :: decL f (t.drop (nxL t).2.1.toNat)
theorem decL_len : ∀ (f : Nat) (t : List UInt8), (decL f t).length ≤ f
  | 0, _ => Nat.zero_le _
  | f + 1, t => by
    rw [decL]
    split
    · simp
    · have := decL_len f (t.drop (nxL t).2.1.toNat)
      simp only [List.length_cons]
      omega
theorem allO_dec : ∀ (f : Nat) (t : List UInt8), t.length ≤ f → t.length ≤ 1000000000 → ∃ xs, allO f (mkB t) = some xs ∧ xs.map Prod.fst = decL f t
  | 0, t, h, hs => by
    have e : t = [] := List.length_eq_zero_iff.1 (by omega)
    subst e
    exact ⟨[], allO_nil 0 rfl, rfl⟩
  | f + 1, t, h, hs => by
    by_cases e : t = []
    · subst e
      exact ⟨[], allO_nil _ rfl, by rw [decL, if_pos rfl]; rfl⟩
    · have hl := nx_len e
      have hne := List.length_pos_iff.2 e
      obtain ⟨xs, h1, h2⟩ := allO_dec f (t.drop (nxL t).2.1.toNat) (by rw [List.length_drop]; omega) (by rw [List.length_drop]; omega)
      refine ⟨((nxL t).1, (nxL t).2.2) :: xs, ?_, ?_⟩
      · rw [allO, if_neg (by rw [mkB_size]; omega), utfNext_is t hs, Option.bind_some, if_pos (by rw [mkB_size]; omega), ext_drop, h1]
        rfl
      · rw [decL, if_neg e, ← h2]
        rfl
theorem utfDecode_is (t : List UInt8) (hs : t.length ≤ 1000000000) : utf_Decode.f (mkB t) = some (decL t.length t) := by
  obtain ⟨xs, h1, h2⟩ := allO_dec t.length t (Nat.le_refl _) hs
  unfold utf_Decode.f
  rw [if_pos (by rw [mkB_size]; exact hs), mkB_size, h1]
  show some (xs.map Prod.fst) = _
  rw [h2]
theorem refDecode_l0 : ∀ (f : Nat) (t : List UInt8) (acc : List Int), t.length ≤ f → acc.length + f ≤ 1000000000 → Ev (fun k => portcullisref01_Decode.l0 k (mkB t) acc) (acc ++ decL f t)
  | f, [], acc, h, ha => by
    have e : decL f [] = [] := by cases f <;> rfl
    rw [e, List.append_nil]
    exact Ev.one fun k => by rw [portcullisref01_Decode.l0, if_pos (by rw [Lib.toList_data, data_mkB])]
  | 0, a :: r, acc, h, ha => by simp at h
  | f + 1, a :: r, acc, h, ha => by
    have hne : a :: r ≠ [] := by simp
    have hl := nx_len hne
    have ih := refDecode_l0 f ((a :: r).drop (nxL (a :: r)).2.1.toNat) (acc ++ [(nxL (a :: r)).1]) (by rw [List.length_drop]; omega) (by simp; omega)
    have e : acc ++ decL (f + 1) (a :: r) = (acc ++ [(nxL (a :: r)).1]) ++ decL f ((a :: r).drop (nxL (a :: r)).2.1.toNat) := by rw [decL, if_neg hne]; simp
    rw [e]
    refine Ev.stepG 40 (fun k hk => ?_) ih
    obtain ⟨k, rfl⟩ : ∃ k', k = k' + 40 := ⟨k - 40, by omega⟩
    rw [portcullisref01_Decode.l0, if_neg (by rw [Lib.toList_data, data_mkB]; exact hne), refNext_is, Option.bind_some, if_pos (by omega), if_pos (by omega), if_pos (by rw [mkB_size]; omega), ext_drop]
theorem refDecode_is (t : List UInt8) (hs : t.length ≤ 1000000000) : Ev (fun k => portcullisref01_Decode.f k (mkB t)) (decL t.length t) := by
  have := refDecode_l0 t.length t [] (Nat.le_refl _) (by simp; omega)
  rw [List.nil_append] at this
  exact Ev.of_eq (fun k => by unfold portcullisref01_Decode.f; rfl) this

theorem strOfNums_append (x y : List Int) : strOfNums (x ++ y) = strOfNums x ++ strOfNums y := by
  apply ByteArray.ext
  rw [ByteArray.data_append]
  unfold strOfNums
  simp
theorem strOfNums_size (x : List Int) : (strOfNums x).size = x.length := by
  unfold strOfNums
  simp [ByteArray.size]
theorem valid_is (x : Int) : Lib.validRune x = decide (Scal x) := by
  unfold Lib.validRune
  rw [decide_eq_decide]
  unfold Scal
  omega
theorem refEnc_l0 (l : List Int) (hl : l.length ≤ 1000000) : ∀ (rest pre : List Int) (acc : ByteArray), l = pre ++ rest → acc.size ≤ 4 * pre.length →
    Ev (fun k => portcullisref01_Encode.l0 k l acc (pre.length : Int)) (if rest.all Lib.validRune = true then (acc ++ strOfNums (runesZ rest), true) else ((⟨#[]⟩ : ByteArray), false))
  | [], pre, acc, h, ha => by
    have e : acc ++ strOfNums (runesZ []) = acc := by
      apply ByteArray.ext
      rw [ByteArray.data_append]
      show acc.data ++ #[] = acc.data
      simp
    rw [if_pos (by rfl), e]
    exact Ev.one fun k => by rw [portcullisref01_Encode.l0, if_neg (by rw [h]; simp)]
  | x :: rest, pre, acc, h, ha => by
    have hr : rd l (pre.length : Int) = x := by rw [h]; exact rd_app pre _ x
    have hlen : l.length = pre.length + (rest.length + 1) := by rw [h]; simp
    by_cases c : Scal x
    · have hv : Lib.validRune x = true := by rw [valid_is, decide_eq_true c]
      have hz := encodeZ_len x
      have hsz := strOfNums_size (Lib.encodeRuneZ x)
      have ih := refEnc_l0 l hl rest (pre ++ [x]) (acc ++ strOfNums (Lib.encodeRuneZ x)) (by rw [h]; simp) (by rw [ByteArray.size_append, hsz]; simp; omega)
      have e : (if (x :: rest).all Lib.validRune = true then (acc ++ strOfNums (runesZ (x :: rest)), true) else ((⟨#[]⟩ : ByteArray), false)) = (if rest.all Lib.validRune = true then (acc ++ strOfNums (Lib.encodeRuneZ x) ++ strOfNums (runesZ rest), true) else ((⟨#[]⟩ : ByteArray), false)) := by
        have e1 : runesZ (x :: rest) = Lib.encodeRuneZ x ++ runesZ rest := rfl
        rw [List.all_cons, hv, Bool.true_and, e1, strOfNums_append, ByteArray.append_assoc]
      rw [e]
      refine Ev.step (fun k => ?_) ih
      rw [portcullisref01_Encode.l0, if_pos (by omega), if_pos (by omega), hr, scalar_is, Option.bind_some, if_pos (decide_eq_true c), bytes_is x c, Option.bind_some, if_pos (by omega), w64n _ (by omega)]
      simp only [List.length_append, List.length_cons, List.length_nil]
    · have hv : Lib.validRune x = false := by rw [valid_is, decide_eq_false c]
      rw [if_neg (by rw [List.all_cons, hv]; simp)]
      exact Ev.one fun k => by rw [portcullisref01_Encode.l0, if_pos (by omega), if_pos (by omega), hr, scalar_is, Option.bind_some, if_neg (by rw [decide_eq_false c]; decide)]
theorem refEnc_is (l : List Int) (hl : l.length ≤ 1000000) : Ev (fun k => (portcullisref01_Encode.f k l).bind fun b => some b.1) (encP l).1 := by
  obtain ⟨K, hK⟩ := refEnc_l0 l hl l [] ⟨#[]⟩ rfl (by simp [ByteArray.size])
  refine ⟨K, fun k hk => ?_⟩
  have e := hK k hk
  have e2 : portcullisref01_Encode.f k l = _ := e
  show (portcullisref01_Encode.f k l).bind (fun b => some b.1) = _
  rw [e2, Option.bind_some]
  unfold encP
  have e0 : ∀ b : ByteArray, (⟨#[]⟩ : ByteArray) ++ b = b := fun b => by
    apply ByteArray.ext
    rw [ByteArray.data_append]
    simp
  by_cases c : l.all Lib.validRune = true
  · rw [if_pos c, if_pos c, e0]
  · rw [if_neg c, if_neg c]

end Go.Proofs.YtncbbgmhmofhnaaDoor.Pr
end

section
namespace Go.Proofs.YtncbbgmhmofhnaaDoor.Pr
open Go.RowKit Go.Proofs.YtncbbgmhmofhnaaDoorW.PrintWords Go.Proofs.YtncbbgmhmofhnaaDoorW.PrintLast Go.Proofs.YtncbbgmhmofhnaaDoorW.PrintMore
set_option linter.unusedVariables false
set_option linter.unusedSimpArgs false

theorem nxA (a : UInt8) (r : List UInt8) (c0 : ub a < 128) : nxL (a :: r) = (ub a, 1, true) := by
  match r with
  | [] => rw [nx1, if_pos c0]
  | [b] => rw [nx2, if_pos c0]
  | [b, c] => rw [nx3, if_pos c0]
  | b :: c :: d :: r => rw [nx4, if_pos c0]
theorem nxB (a b : UInt8) (r : List UInt8) (c2 : P2 (ub a) (ub b)) : nxL (a :: b :: r) = (v2 (ub a) (ub b), 2, true) := by
  have c0 : ¬ ub a < 128 := by unfold P2 at c2; omega
  match r with
  | [] => rw [nx2, if_neg c0, if_pos c2]
  | [c] => rw [nx3, if_neg c0, if_pos c2]
  | c :: d :: r => rw [nx4, if_neg c0, if_pos c2]
theorem nxC (a b c : UInt8) (r : List UInt8) (c3 : P3 (ub a) (ub b)) (c8 : C8 (ub c)) : nxL (a :: b :: c :: r) = (v3 (ub a) (ub b) (ub c), 3, true) := by
  have c0 : ¬ ub a < 128 := by unfold P3 at c3; omega
  have c2 : ¬ P2 (ub a) (ub b) := by unfold P3 at c3; unfold P2; omega
  match r with
  | [] => rw [nx3, if_neg c0, if_neg c2, if_pos c3, if_pos c8]
  | d :: r => rw [nx4, if_neg c0, if_neg c2, if_pos c3, if_pos c8]
theorem nxD (a b c d : UInt8) (r : List UInt8) (c4 : P4 (ub a) (ub b)) (c8 : C8 (ub c)) (d8 : C8 (ub d)) : nxL (a :: b :: c :: d :: r) = (v4 (ub a) (ub b) (ub c) (ub d), 4, true) := by
  have c0 : ¬ ub a < 128 := by unfold P4 at c4; omega
  have c2 : ¬ P2 (ub a) (ub b) := by unfold P4 at c4; unfold P2; omega
  have c3 : ¬ P3 (ub a) (ub b) := by unfold P4 at c4; unfold P3; omega
  rw [nx4, if_neg c0, if_neg c2, if_neg c3, if_pos c4, if_pos c8, if_pos d8]
abbrev u8Z (x : Int) : UInt8 := x.toNat.toUInt8
theorem ub_of {x : Int} (h : 0 ≤ x) (h2 : x < 256) : ub (u8Z x) = x := by
  unfold ub u8Z
  simp
  omega
def encB (c : Int) : List UInt8 := (Lib.encodeRuneZ c).map u8Z
theorem nx_enc {c : Int} (h : Scal c) (r : List UInt8) : nxL (encB c ++ r) = (c, ((encB c).length : Int), true) := by
  have hs := h
  unfold Scal at h
  unfold encB
  rcases encZ_cases hs with ⟨h1, e1⟩ | ⟨h1, h2, e1⟩ | ⟨h1, h2, e1⟩ | ⟨h1, e1⟩ <;> rw [e1]
  · show nxL (u8Z c :: r) = _
    have ec : ub (u8Z c) = c := ub_of (by omega) (by omega)
    rw [nxA _ _ (by rw [ec]; omega), ec]
    rfl
  · show nxL (u8Z (192 + c / 64) :: u8Z (128 + c % 64) :: r) = _
    have ea : ub (u8Z (192 + c / 64)) = 192 + c / 64 := ub_of (by omega) (by omega)
    have eb : ub (u8Z (128 + c % 64)) = 128 + c % 64 := ub_of (by omega) (by omega)
    rw [nxB _ _ _ (by rw [ea, eb]; unfold P2; omega), ea, eb, show v2 (192 + c / 64) (128 + c % 64) = c by unfold v2; omega]
    rfl
  · show nxL (u8Z (224 + c / 4096) :: u8Z (128 + c / 64 % 64) :: u8Z (128 + c % 64) :: r) = _
    have ea : ub (u8Z (224 + c / 4096)) = 224 + c / 4096 := ub_of (by omega) (by omega)
    have eb : ub (u8Z (128 + c / 64 % 64)) = 128 + c / 64 % 64 := ub_of (by omega) (by omega)
    have ec : ub (u8Z (128 + c % 64)) = 128 + c % 64 := ub_of (by omega) (by omega)
    rw [nxC _ _ _ _ (by rw [ea, eb]; unfold P3; omega) (by rw [ec]; unfold C8; omega), ea, eb, ec, show v3 (224 + c / 4096) (128 + c / 64 % 64) (128 + c % 64) = c by unfold v3; omega]
    rfl
  · show nxL (u8Z (240 + c / 262144) :: u8Z (128 + c / 4096 % 64) :: u8Z (128 + c / 64 % 64) :: u8Z (128 + c % 64) :: r) = _
    have ea : ub (u8Z (240 + c / 262144)) = 240 + c / 262144 := ub_of (by omega) (by omega)
    have eb : ub (u8Z (128 + c / 4096 % 64)) = 128 + c / 4096 % 64 := ub_of (by omega) (by omega)
    have ec : ub (u8Z (128 + c / 64 % 64)) = 128 + c / 64 % 64 := ub_of (by omega) (by omega)
    have ed : ub (u8Z (128 + c % 64)) = 128 + c % 64 := ub_of (by omega) (by omega)
    rw [nxD _ _ _ _ _ (by rw [ea, eb]; unfold P4; omega) (by rw [ec]; unfold C8; omega) (by rw [ed]; unfold C8; omega), ea, eb, ec, ed, show v4 (240 + c / 262144) (128 + c / 4096 % 64) (128 + c / 64 % 64) (128 + c % 64) = c by unfold v4; omega]
    rfl
def encL (l : List Int) : List UInt8 := l.flatMap encB
theorem encB_len (c : Int) : 1 ≤ (encB c).length ∧ (encB c).length ≤ 4 := by
  unfold encB
  rw [List.length_map]
  exact Lib.encodeRuneZ_length c
theorem encL_len : ∀ l : List Int, (encL l).length ≤ 4 * l.length
  | [] => Nat.zero_le _
  | c :: l => by
    have h1 := (encB_len c).2
    have h2 := encL_len l
    have e : encL (c :: l) = encB c ++ encL l := rfl
    rw [e, List.length_append, List.length_cons]
    omega
theorem dec_enc : ∀ (l : List Int) (f : Nat), (∀ x ∈ l, Scal x) → (encL l).length ≤ f → decL f (encL l) = l
  | [], f, _, _ => by cases f <;> rfl
  | c :: l, f, h, hf => by
    have e : encL (c :: l) = encB c ++ encL l := rfl
    have hb := encB_len c
    rw [e] at hf ⊢
    rw [List.length_append] at hf
    obtain ⟨f, rfl⟩ : ∃ f', f = f' + 1 := ⟨f - 1, by omega⟩
    have hne : encB c ++ encL l ≠ [] := fun h0 => by
      have := congrArg List.length h0
      rw [List.length_append, List.length_nil] at this
      omega
    rw [decL, if_neg hne, nx_enc (h c List.mem_cons_self)]
    show c :: decL f ((encB c ++ encL l).drop ((encB c).length : Int).toNat) = _
    rw [Int.toNat_natCast, List.drop_left, dec_enc l f (fun x hx => h x (List.mem_cons_of_mem _ hx)) (by omega)]
theorem runes_enc (l : List Int) : strOfNums (runesZ l) = mkB (encL l) := by
  have e : runesZ l = ints (encL l) := by
    induction l with
    | nil => rfl
    | cons c l ih =>
      have e1 : runesZ (c :: l) = Lib.encodeRuneZ c ++ runesZ l := rfl
      have e2 : encL (c :: l) = encB c ++ encL l := rfl
      rw [e1, e2, ih]
      unfold ints encB
      rw [List.map_append, List.map_map]
      congr 1
      conv => lhs; rw [← List.map_id (Lib.encodeRuneZ c)]
      refine List.map_congr_left fun x hx => ?_
      have := Lib.encodeRuneZ_byte c x hx
      exact (ub_of this.1 this.2).symm
  rw [e, strOfNums_ints]
theorem encP_scal {l : List Int} (h : ∀ x ∈ l, Scal x) : encP l = (mkB (encL l), 0) := by
  unfold encP
  have : l.all Lib.validRune = true := List.all_eq_true.2 fun x hx => by rw [valid_is]; exact decide_eq_true (h x hx)
  rw [if_pos this, runes_enc]

theorem nx_scal (t : List UInt8) : Scal (nxL t).1 := by
  have hz : Scal 65533 := by unfold Scal; omega
  have h1 : ∀ a : UInt8, ub a < 128 → Scal (ub a) := fun a h => by have := ub_rng a; unfold Scal; omega
  have h2 : ∀ a b : UInt8, P2 (ub a) (ub b) → Scal (v2 (ub a) (ub b)) := fun a b h => by unfold P2 at h; unfold Scal v2; omega
  have h3 : ∀ a b c : UInt8, P3 (ub a) (ub b) → C8 (ub c) → Scal (v3 (ub a) (ub b) (ub c)) := fun a b c h hc => by unfold P3 at h; unfold C8 at hc; unfold Scal v3; omega
  have h4 : ∀ a b c d : UInt8, P4 (ub a) (ub b) → C8 (ub c) → C8 (ub d) → Scal (v4 (ub a) (ub b) (ub c) (ub d)) := fun a b c d h hc hd => by unfold P4 at h; unfold C8 at hc hd; unfold Scal v4; omega
  match t with
  | [] => show Scal 0; unfold Scal; omega
  | [a] =>
    rw [nx1]
    by_cases c0 : ub a < 128
    · rw [if_pos c0]; exact h1 a c0
    · rw [if_neg c0]; exact hz
  | [a, b] =>
    rw [nx2]
    by_cases c0 : ub a < 128
    · rw [if_pos c0]; exact h1 a c0
    · rw [if_neg c0]
      by_cases c2 : P2 (ub a) (ub b)
      · rw [if_pos c2]; exact h2 a b c2
      · rw [if_neg c2]
        by_cases c3 : P3 (ub a) (ub b) ∨ P4 (ub a) (ub b)
        · rw [if_pos c3]; exact hz
        · rw [if_neg c3]; exact hz
  | [a, b, c] =>
    rw [nx3]
    by_cases c0 : ub a < 128
    · rw [if_pos c0]; exact h1 a c0
    · rw [if_neg c0]
      by_cases c2 : P2 (ub a) (ub b)
      · rw [if_pos c2]; exact h2 a b c2
      · rw [if_neg c2]
        by_cases c8 : C8 (ub c)
        · rw [if_pos c8, if_pos c8]
          by_cases c3 : P3 (ub a) (ub b)
          · rw [if_pos c3]; exact h3 a b c c3 c8
          · rw [if_neg c3]
            by_cases c4 : P4 (ub a) (ub b)
            · rw [if_pos c4]; exact hz
            · rw [if_neg c4]; exact hz
        · rw [if_neg c8, if_neg c8]
          by_cases c3 : P3 (ub a) (ub b)
          · rw [if_pos c3]; exact hz
          · rw [if_neg c3]
            by_cases c4 : P4 (ub a) (ub b)
            · rw [if_pos c4]; exact hz
            · rw [if_neg c4]; exact hz
  | a :: b :: c :: d :: r =>
    rw [nx4]
    by_cases c0 : ub a < 128
    · rw [if_pos c0]; exact h1 a c0
    · rw [if_neg c0]
      by_cases c2 : P2 (ub a) (ub b)
      · rw [if_pos c2]; exact h2 a b c2
      · rw [if_neg c2]
        by_cases c8 : C8 (ub c)
        · rw [if_pos c8, if_pos c8]
          by_cases c3 : P3 (ub a) (ub b)
          · rw [if_pos c3]; exact h3 a b c c3 c8
          · rw [if_neg c3]
            by_cases c4 : P4 (ub a) (ub b)
            · rw [if_pos c4]
              by_cases d8 : C8 (ub d)
              · rw [if_pos d8]; exact h4 a b c d c4 c8 d8
              · rw [if_neg d8]; exact hz
            · rw [if_neg c4]; exact hz
        · rw [if_neg c8, if_neg c8]
          by_cases c3 : P3 (ub a) (ub b)
          · rw [if_pos c3]; exact hz
          · rw [if_neg c3]
            by_cases c4 : P4 (ub a) (ub b)
            · rw [if_pos c4]; exact hz
            · rw [if_neg c4]; exact hz
theorem decL_scal : ∀ (f : Nat) (t : List UInt8), ∀ x ∈ decL f t, Scal x
  | 0, _, x, hx => by simp [decL] at hx
  | f + 1, t, x, hx => by
    rw [decL] at hx
    split at hx
    · simp at hx
    · rcases List.mem_cons.1 hx with rfl | hx
      · exact nx_scal t
      · exact decL_scal f _ x hx
theorem pair_stab : ((uP0 ++ uP1).all fun p => decide (0 ≤ p.f0 ∧ p.f0 ≤ 1114111 ∧ (p.f0 < 55296 ∨ 57343 < p.f0))) = true := by decide +kernel
theorem pair_scal {a b : Int} (h : (prU a b).2 = true) : Scal (prU a b).1 := by
  unfold prU at h ⊢
  unfold ofP at h ⊢
  cases hf : (uP0 ++ uP1).find? (fun x => x.f1 == a && x.f2 == b) with
  | none => rw [hf] at h; exact absurd h (by decide)
  | some p =>
    have h1 := List.all_eq_true.1 pair_stab p (List.mem_of_find?_eq_some hf)
    show 0 ≤ p.f0 ∧ p.f0 ≤ 1114111 ∧ (p.f0 < 55296 ∨ 57343 < p.f0)
    exact of_decide_eq_true h1
theorem dec_stab : (ptsU.all fun r => (apartK 4 r).all fun x => decide (0 ≤ x ∧ x ≤ 1114111 ∧ (x < 55296 ∨ 57343 < x))) = true := by decide +kernel
theorem apart_scal {r : Int} (h : Scal r) : ∀ y ∈ apartK 4 r, Scal y := fun y hy => by
  by_cases hm : r ∈ ptsU
  · show 0 ≤ y ∧ y ≤ 1114111 ∧ (y < 55296 ∨ 57343 < y)
    exact of_decide_eq_true (List.all_eq_true.1 (List.all_eq_true.1 dec_stab r hm) y hy)
  · rw [apartK_nil (decU_pts hm)] at hy
    rw [List.mem_singleton.1 hy]
    exact h
theorem nfd_scal {l : List Int} (h : ∀ x ∈ l, Scal x) : ∀ y ∈ nfdU l, Scal y := fun y hy => by
  have hy2 : y ∈ apL l := (ordM_perm clsU (apL l)).mem_iff.1 hy
  unfold apL at hy2
  obtain ⟨x, hx, hy3⟩ := List.mem_flatMap.1 hy2
  exact apart_scal (h x hx) y hy3
/-- A law of code points that decomposing, composing keep: what is put together has it. -/
theorem cps_all {R : Int → Prop} (hp : ∀ a b, (prU a b).2 = true → R (prU a b).1) : ∀ (rest done : List Int) (st : Option Int) (seg : List Int) (last : Int), (∀ x ∈ rest, R x) → (∀ x ∈ done, R x) → (∀ x, st = some x → R x) → (∀ x ∈ seg, R x) → ∀ y ∈ cpsU rest done st seg last, R y
  | [], done, none, seg, last, hr, hd, hs, hg, y, hy => by
    rw [cpsU] at hy
    rcases List.mem_append.1 hy with h | h
    · exact hd y h
    · exact hg y h
  | [], done, some s, seg, last, hr, hd, hs, hg, y, hy => by
    rw [cpsU] at hy
    rcases List.mem_append.1 hy with h | h
    · exact hd y h
    · rcases List.mem_cons.1 h with rfl | h
      · exact hs _ rfl
      · exact hg y h
  | r :: t, done, some s, seg, last, hr, hd, hs, hg, y, hy => by
    have hr1 := hr r List.mem_cons_self
    have hrt : ∀ x ∈ t, R x := fun x hx => hr x (List.mem_cons_of_mem _ hx)
    rw [cpsU] at hy
    split at hy
    · rename_i hc
      exact cps_all hp t done (some (prU s r).1) seg last hrt hd (fun x hx => by cases hx; exact hp _ _ hc.2) hg y hy
    · split at hy
      · refine cps_all hp t (done ++ s :: seg) (some r) [] 0 hrt (fun x hx => ?_) (fun x hx => by cases hx; exact hr1) (fun x hx => by simp at hx) y hy
        rcases List.mem_append.1 hx with h | h
        · exact hd x h
        · rcases List.mem_cons.1 h with rfl | h
          · exact hs _ rfl
          · exact hg x h
      · refine cps_all hp t done (some s) (seg ++ [r]) (clsU r) hrt hd hs (fun x hx => ?_) y hy
        rcases List.mem_append.1 hx with h | h
        · exact hg x h
        · rw [List.mem_singleton.1 h]; exact hr1
  | r :: t, done, none, seg, last, hr, hd, hs, hg, y, hy => by
    have hr1 := hr r List.mem_cons_self
    have hrt : ∀ x ∈ t, R x := fun x hx => hr x (List.mem_cons_of_mem _ hx)
    rw [cpsU] at hy
    split at hy
    · refine cps_all hp t (done ++ seg) (some r) [] 0 hrt (fun x hx => ?_) (fun x hx => by cases hx; exact hr1) (fun x hx => by simp at hx) y hy
      rcases List.mem_append.1 hx with h | h
      · exact hd x h
      · exact hg x h
    · refine cps_all hp t done none (seg ++ [r]) (clsU r) hrt hd (fun x hx => by cases hx) (fun x hx => ?_) y hy
      rcases List.mem_append.1 hx with h | h
      · exact hg x h
      · rw [List.mem_singleton.1 h]; exact hr1
theorem nfc_scal {l : List Int} (h : ∀ x ∈ l, Scal x) : ∀ y ∈ nfcU l, Scal y :=
  cps_all (fun a b => pair_scal) (nfdU l) [] none [] 0 (nfd_scal h) (fun x hx => by simp at hx) (fun x hx => by cases hx) (fun x hx => by simp at hx)

def skipU (r : Int) : Bool := r == 173 || r == 8204 || r == 8205
def likeT : List (Int × List Int) := [(48, [111]), (49, [108]), (109, [114, 110]), (945, [97]), (957, [118]), (959, [111]), (961, [112]), (1072, [97]), (1077, [101]), (1086, [111]), (1088, [112]), (1089, [99]), (1091, [121]), (1093, [120]), (1109, [115]), (1110, [105]), (1112, [106]), (1505, [111]), (1575, [108]), (12540, [19968])]
def likeU (r : Int) : List Int := match likeT.find? (fun p => p.1 == r) with
  | some p => p.2
  | none => [r]
def foldU (l : List Int) : List Int := l.flatMap fun r => if skipU r = true then [] else likeU r
def skU (l : List Int) : List Int := nfdU (foldU (nfdU l))
theorem sk_nfc (l : List Int) : skU (nfcU l) = skU l := by
  unfold skU
  rw [nfd_nfc]

theorem foldU_append (a b : List Int) : foldU (a ++ b) = foldU a ++ foldU b := List.flatMap_append
end Go.Proofs.YtncbbgmhmofhnaaDoor.Pr
end

section
namespace Go.Proofs.YtncbbgmhmofhnaaDoor.Pr
open Go.RowKit Go.Proofs.YtncbbgmhmofhnaaDoorW.PrintWords Go.Proofs.YtncbbgmhmofhnaaDoorW.PrintLast Go.Proofs.YtncbbgmhmofhnaaDoorW.PrintMore
set_option linter.unusedVariables false
set_option linter.unusedSimpArgs false

theorem like_none (r : Int) (h48 : ¬ r = 48) (h49 : ¬ r = 49) (h109 : ¬ r = 109) (h945 : ¬ r = 945) (h957 : ¬ r = 957) (h959 : ¬ r = 959) (h961 : ¬ r = 961) (h1072 : ¬ r = 1072) (h1077 : ¬ r = 1077) (h1086 : ¬ r = 1086) (h1088 : ¬ r = 1088) (h1089 : ¬ r = 1089) (h1091 : ¬ r = 1091) (h1093 : ¬ r = 1093) (h1109 : ¬ r = 1109) (h1110 : ¬ r = 1110) (h1112 : ¬ r = 1112) (h1505 : ¬ r = 1505) (h1575 : ¬ r = 1575) (h12540 : ¬ r = 12540) : likeU r = [r] := by
  have : likeT.find? (fun p => p.1 == r) = none := List.find?_eq_none.2 fun p hp => by
    simp only [likeT, List.mem_cons, List.not_mem_nil, or_false] at hp
    rcases hp with rfl | rfl | rfl | rfl | rfl | rfl | rfl | rfl | rfl | rfl | rfl | rfl | rfl | rfl | rfl | rfl | rfl | rfl | rfl | rfl <;> simp <;> omega
  unfold likeU
  rw [this]
theorem like_both (k : Nat) (r : Int) : portcullisref03_Like.f r = some (likeU r) ∧ unidata_Like.f (k + 5) r = some (likeU r) := by
  by_cases h48 : r = 48
  · subst h48; exact ⟨by kernel_rfl, by kernel_rfl⟩
  by_cases h49 : r = 49
  · subst h49; exact ⟨by kernel_rfl, by kernel_rfl⟩
  by_cases h109 : r = 109
  · subst h109; exact ⟨by kernel_rfl, by kernel_rfl⟩
  by_cases h945 : r = 945
  · subst h945; exact ⟨by kernel_rfl, by kernel_rfl⟩
  by_cases h957 : r = 957
  · subst h957; exact ⟨by kernel_rfl, by kernel_rfl⟩
  by_cases h959 : r = 959
  · subst h959; exact ⟨by kernel_rfl, by kernel_rfl⟩
  by_cases h961 : r = 961
  · subst h961; exact ⟨by kernel_rfl, by kernel_rfl⟩
  by_cases h1072 : r = 1072
  · subst h1072; exact ⟨by kernel_rfl, by kernel_rfl⟩
  by_cases h1077 : r = 1077
  · subst h1077; exact ⟨by kernel_rfl, by kernel_rfl⟩
  by_cases h1086 : r = 1086
  · subst h1086; exact ⟨by kernel_rfl, by kernel_rfl⟩
  by_cases h1088 : r = 1088
  · subst h1088; exact ⟨by kernel_rfl, by kernel_rfl⟩
  by_cases h1089 : r = 1089
  · subst h1089; exact ⟨by kernel_rfl, by kernel_rfl⟩
  by_cases h1091 : r = 1091
  · subst h1091; exact ⟨by kernel_rfl, by kernel_rfl⟩
  by_cases h1093 : r = 1093
  · subst h1093; exact ⟨by kernel_rfl, by kernel_rfl⟩
  by_cases h1109 : r = 1109
  · subst h1109; exact ⟨by kernel_rfl, by kernel_rfl⟩
  by_cases h1110 : r = 1110
  · subst h1110; exact ⟨by kernel_rfl, by kernel_rfl⟩
  by_cases h1112 : r = 1112
  · subst h1112; exact ⟨by kernel_rfl, by kernel_rfl⟩
  by_cases h1505 : r = 1505
  · subst h1505; exact ⟨by kernel_rfl, by kernel_rfl⟩
  by_cases h1575 : r = 1575
  · subst h1575; exact ⟨by kernel_rfl, by kernel_rfl⟩
  by_cases h12540 : r = 12540
  · subst h12540; exact ⟨by kernel_rfl, by kernel_rfl⟩
  rw [like_none r h48 h49 h109 h945 h957 h959 h961 h1072 h1077 h1086 h1088 h1089 h1091 h1093 h1109 h1110 h1112 h1505 h1575 h12540]
  refine ⟨?_, ?_⟩
  · simp [portcullisref03_Like.f, *]
  · simp [unidata_Like.f, unidata_Like.j0, unidata_Like.j1, unidata_Like.j2, unidata_Like.j3, *]

theorem apart_tab4 : (ptsU.all fun r => decide ((apartK 4 r).length ≤ 4)) = true := by decide +kernel
theorem apart_len4 (r : Int) : (apartK 4 r).length ≤ 4 := by
  by_cases hm : r ∈ ptsU
  · exact of_decide_eq_true (List.all_eq_true.1 apart_tab4 r hm)
  · rw [apartK_nil (decU_pts hm)]; simp
theorem apL_len4 : ∀ l : List Int, (apL l).length ≤ 4 * l.length
  | [] => Nat.zero_le _
  | x :: l => by
    have h1 := apart_len4 x
    have h2 := apL_len4 l
    have e : apL (x :: l) = apartK 4 x ++ apL l := rfl
    rw [e, List.length_append, List.length_cons]
    omega
theorem nfd_len4 (l : List Int) : (nfdU l).length ≤ 4 * l.length := by
  have := apL_len4 l
  unfold nfdU
  rw [ordM_len]; exact this
theorem like_ltab : (likeT.all fun p => decide (p.2.length ≤ 2) && p.2.all fun y => decide (0 ≤ y ∧ y ≤ 1114111 ∧ (y < 55296 ∨ 57343 < y))) = true := by decide +kernel
theorem like_all (r : Int) (h : Scal r) : (likeU r).length ≤ 2 ∧ ∀ y ∈ likeU r, Scal y := by
  unfold likeU
  cases hf : likeT.find? (fun p => p.1 == r) with
  | some p =>
    have h1 := List.all_eq_true.1 like_ltab p (List.mem_of_find?_eq_some hf)
    simp only [Bool.and_eq_true, decide_eq_true_eq, List.all_eq_true] at h1
    exact ⟨h1.1, fun y hy => h1.2 y hy⟩
  | none => exact ⟨by simp, fun y hy => by rw [List.mem_singleton.1 hy]; exact h⟩
theorem fold_scal {l : List Int} (h : ∀ x ∈ l, Scal x) : ∀ y ∈ foldU l, Scal y := fun y hy => by
  obtain ⟨x, hx, hy2⟩ := List.mem_flatMap.1 hy
  split at hy2
  · simp at hy2
  · exact (like_all x (h x hx)).2 y hy2
theorem fold_len : ∀ {l : List Int}, (∀ x ∈ l, Scal x) → (foldU l).length ≤ 2 * l.length
  | [], _ => Nat.zero_le _
  | x :: l, h => by
    have h1 := (like_all x (h x List.mem_cons_self)).1
    have h2 := fold_len fun y hy => h y (List.mem_cons_of_mem x hy)
    have e : foldU (x :: l) = (if skipU x = true then [] else likeU x) ++ foldU l := rfl
    rw [e, List.length_append, List.length_cons]
    split
    · simp; omega
    · omega
theorem sk_scal {l : List Int} (h : ∀ x ∈ l, Scal x) : ∀ y ∈ skU l, Scal y := nfd_scal (fold_scal (nfd_scal h))
theorem scal_rng {x : Int} (h : Scal x) : -2147483648 ≤ x ∧ x ≤ 2147483647 := by unfold Scal at h; omega

theorem foldU_snoc (pre : List Int) (x : Int) : foldU (pre ++ [x]) = foldU pre ++ (if skipU x = true then [] else likeU x) := by
  rw [foldU_append]
  congr 1
  exact List.append_nil _
theorem skip_or {x : Int} (h : skipU x = true) : x = 173 ∨ x = 8204 ∨ x = 8205 := by
  unfold skipU at h
  simp only [Bool.or_eq_true, beq_iff_eq] at h
  omega
theorem skip_no {x : Int} (h : ¬ skipU x = true) : x ≠ 173 ∧ x ≠ 8204 ∧ x ≠ 8205 := by
  unfold skipU at h
  simp only [Bool.or_eq_true, beq_iff_eq] at h
  omega
theorem fold_pre (d pre rest : List Int) (h : d = pre ++ rest) : (foldU pre).length ≤ (foldU d).length := by
  rw [h, foldU_append, List.length_append]; omega
theorem skel_l0 (d : List Int) (hd : d.length ≤ 60000) (hf : (foldU d).length ≤ 60000) (hs : ∀ x ∈ nfdU (foldU d), Scal x) : ∀ (rest pre : List Int), d = pre ++ rest → Ev (fun k => skel_Skeleton.l0 k (foldU pre) d (d.length : Int) (pre.length : Int)) (mkB (encL (nfdU (foldU d))))
  | [], pre, h => by
    have e : d = pre := by rw [h]; simp
    have hl := nfd_len (foldU d)
    refine Ev.one fun k => ?_
    rw [skel_Skeleton.l0, if_neg (by rw [e]; omega), ← e, nfd_is _ hf, Option.bind_some]
    unfold utf_Encode.f
    rw [if_pos ⟨by omega, fun x hx => scal_rng (hs x hx)⟩, Option.bind_some, encP_scal hs]
  | x :: rest, pre, h => by
    have hr : rd d (pre.length : Int) = x := by rw [h]; exact rd_app pre _ x
    have hl : d.length = pre.length + (rest.length + 1) := by rw [h]; simp
    have hw : wrap64 ((pre.length : Int) + 1) = (((pre ++ [x]).length : Nat) : Int) := by rw [w64n _ (by omega)]; simp
    have ih := skel_l0 d hd hf hs rest (pre ++ [x]) (by rw [h]; simp)
    have hfp := fold_pre d (pre ++ [x]) rest (by rw [h]; simp)
    rw [foldU_snoc] at ih hfp
    by_cases hk : skipU x = true
    · rw [if_pos hk, List.append_nil] at ih
      refine Ev.step (fun k => ?_) ih
      rw [skel_Skeleton.l0, if_pos (by omega), if_pos (by omega), if_pos (by omega), hr, hw]
      rcases skip_or hk with e | e | e
      · rw [if_pos e]
      · rw [if_neg (by omega), if_pos e]
      · rw [if_neg (by omega), if_neg (by omega), if_pos e]
    · rw [if_neg hk] at ih hfp
      rw [List.length_append] at hfp
      obtain ⟨n1, n2, n3⟩ := skip_no hk
      refine Ev.stepG 5 (fun k hk5 => ?_) ih
      obtain ⟨k, rfl⟩ : ∃ k', k = k' + 5 := ⟨k - 5, by omega⟩
      rw [skel_Skeleton.l0, if_pos (by omega), if_pos (by omega), if_pos (by omega), hr, hw, if_neg n1, if_neg n2, if_neg n3, (like_both k x).2, Option.bind_some, if_pos (by omega)]
/-- The skeleton of bytes. -/
def skB (t : List UInt8) : List UInt8 := encL (skU (decL t.length t))
theorem skeleton_is (t : List UInt8) (ht : t.length ≤ 1000000000) (hd : (nfdU (decL t.length t)).length ≤ 60000) (hd0 : (decL t.length t).length ≤ 60000) (hf : (foldU (nfdU (decL t.length t))).length ≤ 60000) : Ev (fun k => skel_Skeleton.f k (mkB t)) (mkB (skB t)) := by
  have hs := sk_scal (decL_scal t.length t)
  have := skel_l0 (nfdU (decL t.length t)) hd hf hs (nfdU (decL t.length t)) [] rfl
  refine Ev.of_eq (fun k => ?_) this
  unfold skel_Skeleton.f
  rw [utfDecode_is t ht, Option.bind_some, nfd_is _ hd0, Option.bind_some]
  rfl
/-- A text whose skeleton may be asked. -/
structure Sma (t : List UInt8) : Prop where
  a : t.length ≤ 1000000000
  b : (nfdU (decL t.length t)).length ≤ 60000
  c : (decL t.length t).length ≤ 60000
  d : (foldU (nfdU (decL t.length t))).length ≤ 60000
theorem Sma.of (t : List UInt8) (h : t.length ≤ 7000) : Sma t := by
  have h1 := decL_len t.length t
  have h2 := nfd_len4 (decL t.length t)
  have h3 := fold_len (nfd_scal (decL_scal t.length t))
  exact ⟨by omega, by omega, by omega, by omega⟩
theorem dec_encL {l : List Int} (h : ∀ x ∈ l, Scal x) : decL (encL l).length (encL l) = l := dec_enc l _ h (Nat.le_refl _)
theorem Sma.nfc (t : List UInt8) (h : t.length ≤ 1000) : Sma (encL (nfcU (decL t.length t))) := by
  have h1 := decL_len t.length t
  have hs := nfc_scal (decL_scal t.length t)
  have h2 := nfd_len4 (decL t.length t)
  have h3 := fold_len (nfd_scal (decL_scal t.length t))
  have h4 := nfc_len (decL t.length t)
  have h5 := encL_len (nfcU (decL t.length t))
  have e := dec_encL hs
  have e1 : nfdU (nfcU (decL t.length t)) = nfdU (decL t.length t) := nfd_nfc _
  refine ⟨by omega, ?_, ?_, ?_⟩
  · rw [e, e1]; omega
  · rw [e]; omega
  · rw [e, e1]; omega
theorem Sma.is {t : List UInt8} (h : Sma t) : Ev (fun k => skel_Skeleton.f k (mkB t)) (mkB (skB t)) := skeleton_is t h.a h.b h.c h.d
theorem mkB_list (l : List UInt8) : (mkB l).toList = l := by rw [Lib.toList_data, data_mkB]
theorem alike_is {s t : List UInt8} (hs : Sma s) (ht : Sma t) : Ev (fun k => skel_Alike.f k (mkB s) (mkB t)) (decide (skB s = skB t)) := by
  obtain ⟨K1, h1⟩ := hs.is
  obtain ⟨K2, h2⟩ := ht.is
  refine ⟨K1 + K2, fun k hk => ?_⟩
  have e1 := h1 k (by omega)
  have e2 := h2 k (by omega)
  simp only at e1 e2 ⊢
  unfold skel_Alike.f
  rw [e1, Option.bind_some, e2, Option.bind_some, mkB_list, mkB_list]
  congr 1
  by_cases e : skB s = skB t
  · rw [e]; simp
  · rw [decide_eq_false e]; simpa using e
theorem skB_nfc (t : List UInt8) : skB (encL (nfcU (decL t.length t))) = skB t := by
  unfold skB
  rw [dec_encL (nfc_scal (decL_scal t.length t)), sk_nfc]
theorem refText_is (t : List UInt8) (hs : t.length ≤ 1000) : Ev (fun k => portcullisref04_Text.f k (mkB t)) (mkB (encL (nfcU (decL t.length t)))) := by
  have hl := decL_len t.length t
  have l1 := nfd_len4 (decL t.length t)
  have l2 := nfc_len (decL t.length t)
  obtain ⟨K2, h2⟩ := refNFC_is (decL t.length t) (by omega)
  obtain ⟨K3, h3⟩ := refDecode_is t (by omega)
  obtain ⟨K4, h4⟩ := refEnc_is (nfcU (decL t.length t)) (by omega)
  refine ⟨K2 + K3 + K4, fun k hk => ?_⟩
  have e2 := h2 k (by omega)
  have e3 := h3 k (by omega)
  have e4 := h4 k (by omega)
  simp only at e2 e3 e4 ⊢
  unfold portcullisref04_Text.f
  rw [e3, Option.bind_some, e2, Option.bind_some, e4, encP_scal (nfc_scal (decL_scal t.length t))]
end Go.Proofs.YtncbbgmhmofhnaaDoor.Pr
end

section
namespace Go.Proofs.YtncbbgmhmofhnaaDoor.Pr
open Go.RowKit Go.Proofs.YtncbbgmhmofhnaaDoorW.PrintWords Go.Proofs.YtncbbgmhmofhnaaDoorW.PrintLast Go.Proofs.YtncbbgmhmofhnaaDoorW.PrintMore
set_option linter.unusedVariables false
set_option linter.unusedSimpArgs false
attribute [local go_sem] Oper.semAt_some

def vB (x : Int) : Value := .int .u8 x
structure ApB (base Bs : Nat) (w : World) (pre : List Int) (O : Nat → Prop) (W : World) : Prop where
  ex : ∃ v, Boxed W Bs 27 v ∧ W.ownsRow base 5 1 v pre.length (pre.map vB) ∧ (∀ k, v.ownBlock = some k → O k)
  below : Below base w W
theorem ApB.abides {base Bs n1 : Nat} {w : World} {pre : List Int} {O Q : Nat → Prop} {A B : World} (h : ApB base Bs w pre O A) (hQ : ∀ k, Q k → base ≤ k ∧ k ≠ Bs) (hB : Bs < n1) (hb : base ≤ n1) (hs : base ≤ A.heap.size) (hO : ¬ O Bs)
    (ht : Turned (fun k => (Q k ∨ n1 ≤ k) ∧ ¬ O k) A B) : ApB base Bs w pre O B := by
  obtain ⟨v, h1, h2, h3⟩ := h.ex
  have hk : ∀ k, v.ownBlock = some k → ¬ ((Q k ∨ n1 ≤ k) ∧ ¬ O k) := fun k e hh => hh.2 (h3 k e)
  refine ⟨⟨v, ?_, ownsRow_turned h2 ht hk, h3⟩, ht.below h.below hs (fun k hk hh => ?_)⟩
  · refine (ht.same Bs h1.lt (fun hh => ?_)).trans h1
    rcases hh.1 with h' | h'
    · exact (hQ _ h').2 rfl
    · omega
  · rcases hh.1 with h' | h'
    · have := (hQ k h').1; omega
    · omega
end Go.Proofs.YtncbbgmhmofhnaaDoor.Pr
end

section
namespace Go.Proofs.YtncbbgmhmofhnaaDoor.Pr
open Go.RowKit Go.Proofs.YtncbbgmhmofhnaaDoorW.PrintWords Go.Proofs.YtncbbgmhmofhnaaDoorW.PrintLast Go.Proofs.YtncbbgmhmofhnaaDoorW.PrintMore
set_option linter.unusedVariables false
set_option linter.unusedSimpArgs false

def scrN (r : Int) : Nat := (findU r).f3.toNat
theorem scr_tab : ((uT0 ++ uT1 ++ uT2).all fun y => decide (0 ≤ y.f3 ∧ y.f3 ≤ 11)) = true := by decide +kernel
theorem scr_rng (r : Int) : 0 ≤ (findU r).f3 ∧ (findU r).f3 ≤ 11 := by
  unfold findU
  cases e : (uT0 ++ uT1 ++ uT2).find? (inU r) with
  | none => exact ⟨by decide, by decide⟩
  | some y => exact of_decide_eq_true (List.all_eq_true.1 scr_tab y (List.mem_of_find?_eq_some e))
theorem scrN_lt (r : Int) : scrN r < 12 := by have := scr_rng r; unfold scrN; omega
theorem scr_is (r : Int) : unidata_Script.f r = some (scrN r : Int) := by
  have h : unidata_Script.f r = some (findU r).f3 := rfl
  have := scr_rng r
  rw [h]
  unfold scrN
  congr 1
  omega
def mstep (b : Nat) (r : Int) : Nat := b ||| 2 ^ scrN r
def mskU (l : List Int) : Nat := l.foldl mstep 0
theorem two_lt {s : Nat} (h : s < 12) : 2 ^ s < 4096 := Nat.pow_lt_pow_right (by omega) h
theorem mstep_lt {b : Nat} (hb : b < 4096) (r : Int) : mstep b r < 4096 := Nat.or_lt_two_pow (n := 12) hb (two_lt (scrN_lt r))
theorem mfold_lt : ∀ (l : List Int) {b : Nat}, b < 4096 → l.foldl mstep b < 4096
  | [], _, h => h
  | x :: l, _, h => mfold_lt l (mstep_lt h x)
theorem mskU_lt (l : List Int) : mskU l < 4096 := mfold_lt l (by omega)
theorem bits_l0 (d : List Int) (hd : d.length ≤ 1000000000) : ∀ (rest pre : List Int) (b f : Nat), d = pre ++ rest → b < 4096 → rest.length + 1 ≤ f → skel_bits.l0 f (b : Int) d (d.length : Int) (pre.length : Int) = some (((rest.foldl mstep b) / 4 * 4 : Nat) : Int)
  | [], pre, b, f, h, hb, hf => by
    have e : d = pre := by rw [h]; simp
    obtain ⟨f, rfl⟩ : ∃ f', f = f' + 1 := ⟨f - 1, by omega⟩
    rw [skel_bits.l0, if_neg (by rw [e]; omega), not3_is b hb]
    rfl
  | x :: rest, pre, b, f, h, hb, hf => by
    have hr : rd d (pre.length : Int) = x := by rw [h]; exact rd_app pre _ x
    have hl : d.length = pre.length + (rest.length + 1) := by rw [h]; simp
    have hw : wrap64 ((pre.length : Int) + 1) = (((pre ++ [x]).length : Nat) : Int) := by rw [w64n _ (by omega)]; simp
    rw [List.length_cons] at hf
    obtain ⟨f, rfl⟩ : ∃ f', f = f' + 1 := ⟨f - 1, by omega⟩
    have hs := scrN_lt x
    have h2 := two_lt hs
    have ho : Go.bits .or .u16 (b : Int) (shl .u16 1 (scrN x : Int)) = ((mstep b x : Nat) : Int) := by
      rw [shl16_is _ hs, bits_or16 _ _ (by omega) (by omega)]
      rfl
    rw [skel_bits.l0, if_pos (by omega), if_pos (by omega), if_pos (by omega), hr, scr_is, Option.bind_some, if_pos (by omega), ho, hw]
    exact bits_l0 d hd rest (pre ++ [x]) (mstep b x) f (by rw [h]; simp) (mstep_lt hb x) (by omega)
/-- The mask of a text. -/
def mskB (t : List UInt8) : Nat := mskU (decL t.length t) / 4 * 4
theorem mskB_lt (t : List UInt8) : mskB t < 4096 := by
  have := mskU_lt (decL t.length t)
  unfold mskB
  omega
theorem bits_is (t : List UInt8) (ht : t.length ≤ 1000000000) (f : Nat) (hf : t.length + 1 ≤ f) : skel_bits.f f (mkB t) = some (mskB t : Int) := by
  have hl := decL_len t.length t
  unfold skel_bits.f
  rw [utfDecode_is t ht, Option.bind_some]
  exact bits_l0 (decL t.length t) (by omega) (decL t.length t) [] 0 f rfl (by omega) (by omega)
def lowB (t : List UInt8) : Bool := t.all fun c => decide (ub c < 128)
theorem high_is (t : List UInt8) : highB (mkB t) = !lowB t := by
  have hb : ∀ j (h : j < t.length), byteN (mkB t) j = ub t[j] := fun j h => by
    unfold byteN ub
    rw [data_mkB, List.getD_eq_getElem?_getD, List.getElem?_eq_getElem h]
    rfl
  unfold highB lowB
  rw [mkB_size, Bool.eq_iff_iff]
  simp only [List.any_eq_true, List.mem_range, decide_eq_true_eq, Bool.not_eq_true', List.all_eq_false]
  constructor
  · rintro ⟨j, hj, h⟩
    exact ⟨t[j], List.getElem_mem hj, by rw [hb j hj] at h; omega⟩
  · rintro ⟨c, hc, h⟩
    obtain ⟨j, hj, rfl⟩ := List.getElem_of_mem hc
    exact ⟨j, hj, by rw [hb j hj]; omega⟩
/-- The level of a text. -/
def lvlB (t : List UInt8) : Int := if lowB t = true then 1 else lvI (mskB t : Int)
theorem level_is (t : List UInt8) (ht : t.length ≤ 1000000000) : skel_Level.f (mkB t) = some (lvlB t) := by
  have := mskB_lt t
  unfold skel_Level.f lvlB
  rw [if_pos (by rw [mkB_size]; exact ht), high_is]
  cases lowB t with
  | true => rfl
  | false =>
    show (if true = false then some 1 else _) = _
    rw [if_neg (by decide), bits_is t ht _ (by rw [mkB_size]; omega), Option.bind_some, if_pos (by omega)]
    rfl

theorem works_a : skB [109] = [114, 110] := by decide +kernel
theorem works_b : skB [114, 110] = [114, 110] := by decide +kernel
theorem works_c : skB [97] ≠ skB [98] := by decide +kernel
theorem works_d : skB [112, 208, 176, 121, 112, 97, 49] = [112, 97, 121, 112, 97, 108] := by decide +kernel
theorem works_e : lvlB [97, 98, 208, 176] = 5 := by decide +kernel
theorem works_f : lvlB [97, 98, 99] = 1 := by decide +kernel
theorem works_of : skel_Of.f ⟨#[76, 97, 116, 105, 110]⟩ = some (2, 0) := by decide +kernel
theorem works8_is : Ev (fun k => portcullislaw08_works.f k) true := by
  obtain ⟨K1, h1⟩ := (Sma.of [109] (by simp)).is
  obtain ⟨K2, h2⟩ := alike_is (Sma.of [114, 110] (by simp)) (Sma.of [109] (by simp))
  obtain ⟨K3, h3⟩ := alike_is (Sma.of [97] (by simp)) (Sma.of [98] (by simp))
  obtain ⟨K4, h4⟩ := (Sma.of [112, 208, 176, 121, 112, 97, 49] (by simp)).is
  have l1 := level_is [97, 98, 208, 176] (by simp)
  have l2 := level_is [97, 98, 99] (by simp)
  refine ⟨K1 + K2 + K3 + K4, fun k hk => ?_⟩
  have e1 := h1 k (by omega)
  have e2 := h2 k (by omega)
  have e3 := h3 k (by omega)
  have e4 := h4 k (by omega)
  simp only at e1 e2 e3 e4 ⊢
  rw [works_a] at e1
  rw [decide_eq_true (by rw [works_a, works_b])] at e2
  rw [decide_eq_false works_c] at e3
  rw [works_d] at e4
  rw [works_e] at l1
  rw [works_f] at l2
  unfold portcullislaw08_works.f
  show (skel_Of.f _).bind _ = _
  rw [works_of, Option.bind_some]
  have e1' : skel_Skeleton.f k ⟨#[109]⟩ = some (mkB [114, 110]) := e1
  have e2' : skel_Alike.f k ⟨#[114, 110]⟩ ⟨#[109]⟩ = some true := e2
  have e3' : skel_Alike.f k ⟨#[97]⟩ ⟨#[98]⟩ = some false := e3
  have e4' : skel_Skeleton.f k ⟨#[112, 208, 176, 121, 112, 97, 49]⟩ = some (mkB [112, 97, 121, 112, 97, 108]) := e4
  have l1' : skel_Level.f ⟨#[97, 98, 208, 176]⟩ = some 5 := l1
  have l2' : skel_Level.f ⟨#[97, 98, 99]⟩ = some 1 := l2
  rw [e1', Option.bind_some, if_pos (by rw [mkB_list]), e2', Option.bind_some, if_pos rfl, e3', Option.bind_some, if_neg (by decide), e4', Option.bind_some, if_pos (by rw [mkB_list]), l1', Option.bind_some, if_pos rfl, l2', Option.bind_some, if_pos rfl]
  decide +kernel
end Go.Proofs.YtncbbgmhmofhnaaDoor.Pr
end

section
namespace Go.Proofs.YtncbbgmhmofhnaaDoor.Pure
open Go.RowKit Go.Proofs.YtncbbgmhmofhnaaDoor.Pr Go.Proofs.YtncbbgmhmofhnaaDoorW.PrintWords Go.Proofs.YtncbbgmhmofhnaaDoorW.PrintLast Go.Proofs.YtncbbgmhmofhnaaDoorW.PrintMore
set_option linter.unusedVariables false
set_option linter.unusedSimpArgs false

theorem alike_works (s t u : ByteArray) : Pr.Ev (fun k => portcullislaw08_SkelAlike.j0 k s t u true) true := by
  refine Pr.Ev.step (fun k => ?_) works8_is
  rw [portcullislaw08_SkelAlike.j0, if_pos rfl]
  cases portcullislaw08_works.f k <;> rfl
theorem alike_j1 (s t : List UInt8) (hs : s.length ≤ 600) (ht : t.length ≤ 600) : Pr.Ev (fun k => portcullislaw08_SkelAlike.j1 k (mkB s) (mkB t) true) true := by
  obtain ⟨K0, h0⟩ := works8_is
  obtain ⟨K1, h1⟩ := refText_is s (by omega)
  obtain ⟨K2, h2⟩ := refText_is t (by omega)
  obtain ⟨K3, h3⟩ := alike_is (Sma.of s (by omega)) (Sma.nfc s (by omega))
  obtain ⟨K4, h4⟩ := alike_is (Sma.of s (by omega)) (Sma.of t (by omega))
  refine Pr.Ev.stepG (f := fun _ => some true) (K0 + K1 + K2 + K3 + K4) (fun k hk => ?_) (Pr.Ev.now fun _ => rfl)
  have e0 := h0 k (by omega)
  have e1 := h1 k (by omega)
  have e2 := h2 k (by omega)
  have e3 := h3 k (by omega)
  have e4 := h4 k (by omega)
  simp only at e0 e1 e2 e3 e4
  rw [skB_nfc, decide_eq_true rfl] at e3
  rw [portcullislaw08_SkelAlike.j1, e1, Option.bind_some, e2, Option.bind_some, if_pos rfl, e3, Option.bind_some, if_pos rfl, e0, mkB_list, mkB_list]
  by_cases hc : encL (nfcU (decL s.length s)) = encL (nfcU (decL t.length t))
  · have hk2 : skB s = skB t := by rw [← skB_nfc s, ← skB_nfc t, hc]
    rw [decide_eq_true hk2] at e4
    rw [if_pos hc, e4, Option.bind_some, if_pos rfl, Option.bind_some]
  · rw [if_neg hc, Option.bind_some]
theorem alike_main (s t u : List UInt8) (hs : s.length ≤ 600) (ht : t.length ≤ 600) (hu : u.length ≤ 600) : Pr.Ev (fun k => portcullislaw08_SkelAlike.j0 k (mkB s) (mkB t) (mkB u) false) true := by
  obtain ⟨K1, h1⟩ := alike_is (Sma.of s (by omega)) (Sma.of s (by omega))
  obtain ⟨K2, h2⟩ := alike_is (Sma.of s (by omega)) (Sma.of t (by omega))
  obtain ⟨K3, h3⟩ := alike_is (Sma.of t (by omega)) (Sma.of s (by omega))
  obtain ⟨K4, h4⟩ := alike_is (Sma.of t (by omega)) (Sma.of u (by omega))
  obtain ⟨K5, h5⟩ := alike_is (Sma.of s (by omega)) (Sma.of u (by omega))
  refine Pr.Ev.stepG (K1 + K2 + K3 + K4 + K5) (fun k hk => ?_) (alike_j1 s t hs ht)
  have e1 := h1 k (by omega)
  have e2 := h2 k (by omega)
  have e3 := h3 k (by omega)
  have e4 := h4 k (by omega)
  have e5 := h5 k (by omega)
  simp only [decide_true] at e1
  simp only at e2 e3 e4 e5
  have hsym : decide (skB t = skB s) = decide (skB s = skB t) := by
    by_cases h : skB s = skB t
    · rw [decide_eq_true h, decide_eq_true h.symm]
    · rw [decide_eq_false h, decide_eq_false fun h' => h h'.symm]
  rw [hsym] at e3
  rw [portcullislaw08_SkelAlike.j0, if_neg (by decide), e1, Option.bind_some, if_pos rfl, e2, Option.bind_some, e3, Option.bind_some, if_pos (by simp), Option.bind_some]
  by_cases h : skB s = skB t
  · rw [decide_eq_true h, if_pos rfl, e4, Option.bind_some]
    by_cases h' : skB t = skB u
    · rw [decide_eq_true h', if_pos rfl, e5, Option.bind_some, decide_eq_true (h.trans h')]
    · rw [decide_eq_false h', if_neg (by decide)]
  · rw [decide_eq_false h, if_neg (by decide)]
theorem SkelAlike : portcullislaw08_SkelAlike.Pure := by
  intro s t u hs ht hu
  have key : Pr.Ev (fun k => portcullislaw08_SkelAlike.f k s t u) true := by
    have zs := mkB_size s.data.toList
    have zt := mkB_size t.data.toList
    have zu := mkB_size u.data.toList
    rw [mkB_data] at zs zt zu
    by_cases c1 : (s.size : Int) > 600
    · refine Pr.Ev.of_eq (fun k => ?_) (alike_works s t u)
      unfold portcullislaw08_SkelAlike.f
      rw [if_pos c1]
    · by_cases c2 : (t.size : Int) > 600
      · refine Pr.Ev.of_eq (fun k => ?_) (alike_works s t u)
        unfold portcullislaw08_SkelAlike.f
        rw [if_neg c1, if_pos c2]
      · by_cases c3 : (u.size : Int) > 600
        · refine Pr.Ev.of_eq (fun k => ?_) (alike_works s t u)
          unfold portcullislaw08_SkelAlike.f
          rw [if_neg c1, if_neg c2, decide_eq_true c3]
        · have := alike_main s.data.toList t.data.toList u.data.toList (by omega) (by omega) (by omega)
          rw [mkB_data, mkB_data, mkB_data] at this
          refine Pr.Ev.of_eq (fun k => ?_) this
          unfold portcullislaw08_SkelAlike.f
          rw [if_neg c1, if_neg c2, decide_eq_false c3]
  exact key.ex
end Go.Proofs.YtncbbgmhmofhnaaDoor.Pure
end
