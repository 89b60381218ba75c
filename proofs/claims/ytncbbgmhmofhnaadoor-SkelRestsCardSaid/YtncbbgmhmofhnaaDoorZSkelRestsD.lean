import Derived.Test.YtncbbgmhmofhnaaDoorZSkelRestsB
import Derived.Test.YtncbbgmhmofhnaaDoorZSkelRestsC
import Derived.Lib.ConvBytes
import Derived.IntWalk
import Derived.Lib.Hide
import Derived.Shelf.RegionOpen
section
namespace Go.Proofs.YtncbbgmhmofhnaaDoor.Pr
open Go.RowKit Go.Proofs.YtncbbgmhmofhnaaDoorW.PrintWords Go.Proofs.YtncbbgmhmofhnaaDoorW.PrintLast Go.Proofs.YtncbbgmhmofhnaaDoorW.PrintMore
attribute [local go_sem] max2_int min2_int max_two min_two max_three min_three max_four min_four Instr.field asAgg   -- for this text's walks alone
set_option linter.unusedVariables false
set_option linter.unusedSimpArgs false

def portcullislaw08_works.f (k : Nat)  : Option (Bool) := (skel_Of.f (⟨#[76, 97, 116, 105, 110]⟩ : ByteArray)).bind fun bt187 => ((skel_Skeleton.f k (⟨#[109]⟩ : ByteArray)).bind fun t189 => (if t189.toList = ([114, 110] : List UInt8) then ((skel_Alike.f k (⟨#[114, 110]⟩ : ByteArray) (⟨#[109]⟩ : ByteArray)).bind fun t190 => (if t190 = true then ((skel_Alike.f k (⟨#[97]⟩ : ByteArray) (⟨#[98]⟩ : ByteArray)).bind fun t191 => (if t191 = true then (some false) else ((skel_Skeleton.f k (⟨#[112, 208, 176, 121, 112, 97, 49]⟩ : ByteArray)).bind fun t192 => (if t192.toList = ([112, 97, 121, 112, 97, 108] : List UInt8) then ((skel_Level.f (⟨#[97, 98, 208, 176]⟩ : ByteArray)).bind fun t193 => (if t193 = 5 then ((skel_Level.f (⟨#[97, 98, 99]⟩ : ByteArray)).bind fun t194 => (if t194 = 1 then (if bt187.1 = 2 then (if bt187.2 = 0 then ((skel_Name.f 10).bind fun t195 => (some (t195.toList == ([72, 97, 110] : List UInt8)))) else (some false)) else (some false)) else (some false))) else (some false))) else (some false))))) else (some false))) else (some false)))
set_option maxHeartbeats 8000000 in
set_option maxRecDepth 100000 in
theorem portcullislaw08_works.calls (k : Nat)  (r : Bool) (w : World) (h : portcullislaw08_works.f k  = some r) (hG : WG w) :
    Calls Tryd.prog 8 #[] w fun e w' => e = .returned (.bool r) ∧ Below w.heap.size w w' := by
  have HG := Aside0.mk hG
  clear hG
  have HB := Aside0.mk (Below.refl w.heap.size w)
  have H : ((skel_Of.f (⟨#[76, 97, 116, 105, 110]⟩ : ByteArray)).bind fun bt187 => ((skel_Skeleton.f k (⟨#[109]⟩ : ByteArray)).bind fun t189 => (if t189.toList = ([114, 110] : List UInt8) then ((skel_Alike.f k (⟨#[114, 110]⟩ : ByteArray) (⟨#[109]⟩ : ByteArray)).bind fun t190 => (if t190 = true then ((skel_Alike.f k (⟨#[97]⟩ : ByteArray) (⟨#[98]⟩ : ByteArray)).bind fun t191 => (if t191 = true then (some false) else ((skel_Skeleton.f k (⟨#[112, 208, 176, 121, 112, 97, 49]⟩ : ByteArray)).bind fun t192 => (if t192.toList = ([112, 97, 121, 112, 97, 108] : List UInt8) then ((skel_Level.f (⟨#[97, 98, 208, 176]⟩ : ByteArray)).bind fun t193 => (if t193 = 5 then ((skel_Level.f (⟨#[97, 98, 99]⟩ : ByteArray)).bind fun t194 => (if t194 = 1 then (if bt187.1 = 2 then (if bt187.2 = 0 then ((skel_Name.f 10).bind fun t195 => (some (t195.toList == ([72, 97, 110] : List UInt8)))) else (some false)) else (some false)) else (some false))) else (some false))) else (some false))))) else (some false))) else (some false)))) = some r := h
  clear h
  replace H := Option.bind_eq_some_iff.mp H
  obtain ⟨⟨t187, t188⟩, A10, H⟩ := H
  replace H : ((skel_Skeleton.f k (⟨#[109]⟩ : ByteArray)).bind fun t189 => (if t189.toList = ([114, 110] : List UInt8) then ((skel_Alike.f k (⟨#[114, 110]⟩ : ByteArray) (⟨#[109]⟩ : ByteArray)).bind fun t190 => (if t190 = true then ((skel_Alike.f k (⟨#[97]⟩ : ByteArray) (⟨#[98]⟩ : ByteArray)).bind fun t191 => (if t191 = true then (some false) else ((skel_Skeleton.f k (⟨#[112, 208, 176, 121, 112, 97, 49]⟩ : ByteArray)).bind fun t192 => (if t192.toList = ([112, 97, 121, 112, 97, 108] : List UInt8) then ((skel_Level.f (⟨#[97, 98, 208, 176]⟩ : ByteArray)).bind fun t193 => (if t193 = 5 then ((skel_Level.f (⟨#[97, 98, 99]⟩ : ByteArray)).bind fun t194 => (if t194 = 1 then (if t187 = 2 then (if t188 = 0 then ((skel_Name.f 10).bind fun t195 => (some (t195.toList == ([72, 97, 110] : List UInt8)))) else (some false)) else (some false)) else (some false))) else (some false))) else (some false))))) else (some false))) else (some false))) = some r := H
  have A1 := Aside0.mk A10
  clear A10
  replace H := Option.bind_eq_some_iff.mp H
  obtain ⟨t189, A20, H⟩ := H
  replace H : (if t189.toList = ([114, 110] : List UInt8) then ((skel_Alike.f k (⟨#[114, 110]⟩ : ByteArray) (⟨#[109]⟩ : ByteArray)).bind fun t190 => (if t190 = true then ((skel_Alike.f k (⟨#[97]⟩ : ByteArray) (⟨#[98]⟩ : ByteArray)).bind fun t191 => (if t191 = true then (some false) else ((skel_Skeleton.f k (⟨#[112, 208, 176, 121, 112, 97, 49]⟩ : ByteArray)).bind fun t192 => (if t192.toList = ([112, 97, 121, 112, 97, 108] : List UInt8) then ((skel_Level.f (⟨#[97, 98, 208, 176]⟩ : ByteArray)).bind fun t193 => (if t193 = 5 then ((skel_Level.f (⟨#[97, 98, 99]⟩ : ByteArray)).bind fun t194 => (if t194 = 1 then (if t187 = 2 then (if t188 = 0 then ((skel_Name.f 10).bind fun t195 => (some (t195.toList == ([72, 97, 110] : List UInt8)))) else (some false)) else (some false)) else (some false))) else (some false))) else (some false))))) else (some false))) else (some false)) = some r := H
  have A2 := Aside0.mk A20
  clear A20
  by_cases c3 : t189.toList = ([114, 110] : List UInt8)
  · rw [if_pos c3] at H
    have c3b0 : (t189.toList == ([114, 110] : List UInt8)) = true := beq_iff_eq.mpr c3
    have c3b1 : (t189.toList != ([114, 110] : List UInt8)) = false := bne_eq_false_iff_eq.mpr c3
    clear c3
    replace H := Option.bind_eq_some_iff.mp H
    obtain ⟨t190, A40, H⟩ := H
    replace H : (if t190 = true then ((skel_Alike.f k (⟨#[97]⟩ : ByteArray) (⟨#[98]⟩ : ByteArray)).bind fun t191 => (if t191 = true then (some false) else ((skel_Skeleton.f k (⟨#[112, 208, 176, 121, 112, 97, 49]⟩ : ByteArray)).bind fun t192 => (if t192.toList = ([112, 97, 121, 112, 97, 108] : List UInt8) then ((skel_Level.f (⟨#[97, 98, 208, 176]⟩ : ByteArray)).bind fun t193 => (if t193 = 5 then ((skel_Level.f (⟨#[97, 98, 99]⟩ : ByteArray)).bind fun t194 => (if t194 = 1 then (if t187 = 2 then (if t188 = 0 then ((skel_Name.f 10).bind fun t195 => (some (t195.toList == ([72, 97, 110] : List UInt8)))) else (some false)) else (some false)) else (some false))) else (some false))) else (some false))))) else (some false)) = some r := H
    have A4 := Aside0.mk A40
    clear A40
    by_cases c5 : t190 = true
    · subst c5
      have H1 : ((skel_Alike.f k (⟨#[97]⟩ : ByteArray) (⟨#[98]⟩ : ByteArray)).bind fun t191 => (if t191 = true then (some false) else ((skel_Skeleton.f k (⟨#[112, 208, 176, 121, 112, 97, 49]⟩ : ByteArray)).bind fun t192 => (if t192.toList = ([112, 97, 121, 112, 97, 108] : List UInt8) then ((skel_Level.f (⟨#[97, 98, 208, 176]⟩ : ByteArray)).bind fun t193 => (if t193 = 5 then ((skel_Level.f (⟨#[97, 98, 99]⟩ : ByteArray)).bind fun t194 => (if t194 = 1 then (if t187 = 2 then (if t188 = 0 then ((skel_Name.f 10).bind fun t195 => (some (t195.toList == ([72, 97, 110] : List UInt8)))) else (some false)) else (some false)) else (some false))) else (some false))) else (some false))))) = some r := by rw [if_pos rfl] at H; exact H
      clear H
      have H := H1
      clear H1
      replace H := Option.bind_eq_some_iff.mp H
      obtain ⟨t191, A60, H⟩ := H
      replace H : (if t191 = true then (some false) else ((skel_Skeleton.f k (⟨#[112, 208, 176, 121, 112, 97, 49]⟩ : ByteArray)).bind fun t192 => (if t192.toList = ([112, 97, 121, 112, 97, 108] : List UInt8) then ((skel_Level.f (⟨#[97, 98, 208, 176]⟩ : ByteArray)).bind fun t193 => (if t193 = 5 then ((skel_Level.f (⟨#[97, 98, 99]⟩ : ByteArray)).bind fun t194 => (if t194 = 1 then (if t187 = 2 then (if t188 = 0 then ((skel_Name.f 10).bind fun t195 => (some (t195.toList == ([72, 97, 110] : List UInt8)))) else (some false)) else (some false)) else (some false))) else (some false))) else (some false)))) = some r := H
      have A6 := Aside0.mk A60
      clear A60
      by_cases c7 : t191 = true
      · subst c7
        have H1 : (some false) = some r := by rw [if_pos rfl] at H; exact H
        clear H
        have H := H1
        clear H1
        obtain rfl := Option.some.inj H
        go_enter Tryd.func8, Tryd.ntmps8
        go_wp2_with (first | ((with_reducible refine gate_callee (f := 18) rfl ?_); refine goesL_ (some 4) rfl rfl Tryd.func18 (by kernel_rfl) rfl #[.string (⟨#[76, 97, 116, 105, 110]⟩ : ByteArray)] rfl (by (try simp only [List.map_toArray, List.map_cons, List.map_nil]); first | done | rfl | (simp only [List.length_drop, List.length_take]; rfl)) ?_; (with_reducible refine (skel_Of.calls (⟨#[76, 97, 116, 105, 110]⟩ : ByteArray) t187 t188 _ A1.out).mono ?_); rintro e w8 ⟨rfl, hb⟩; refine ⟨_, rfl, ?_⟩; have n0_ := Aside0.mk (below_step (by repeat (first | (with_reducible first | exact HB.out | apply below_alloc | apply pw_below_drewN | apply below_drew1) | exact HB.out)) hb); clear HB; have HB := n0_; clear n0_; (try clear hb); (try clear hb2); (try clear hk); (try clear hi)) | ((with_reducible refine gate_callee (f := 9) rfl ?_); refine goesL_ (some 7) rfl rfl Tryd.func9 (by kernel_rfl) rfl #[.string (⟨#[109]⟩ : ByteArray)] rfl (by (try simp only [List.map_toArray, List.map_cons, List.map_nil]); first | done | rfl | (simp only [List.length_drop, List.length_take]; rfl)) ?_; (with_reducible refine (skel_Skeleton.calls k (⟨#[109]⟩ : ByteArray) t189 _ A2.out (WG.keep HG.out (by repeat (first | (with_reducible first | exact HB.out | apply below_alloc | apply pw_below_drewN | apply below_drew1) | exact HB.out)))).mono ?_); rintro e w9 ⟨rfl, hb⟩; refine ⟨_, rfl, ?_⟩; have n0_ := Aside0.mk (below_step (by repeat (first | (with_reducible first | exact HB.out | apply below_alloc | apply pw_below_drewN | apply below_drew1) | exact HB.out)) hb); clear HB; have HB := n0_; clear n0_; (try clear hb); (try clear hb2); (try clear hk); (try clear hi)) | (go_at_call 10; (with_reducible refine (skel_Alike.calls k (⟨#[114, 110]⟩ : ByteArray) (⟨#[109]⟩ : ByteArray) true _ A4.out (WG.keep HG.out (by repeat (first | (with_reducible first | exact HB.out | apply below_alloc | apply pw_below_drewN | apply below_drew1) | exact HB.out)))).mono ?_); rintro e w10 ⟨rfl, hb⟩; have n0_ := Aside0.mk (below_step (by repeat (first | (with_reducible first | exact HB.out | apply below_alloc | apply pw_below_drewN | apply below_drew1) | exact HB.out)) hb); clear HB; have HB := n0_; clear n0_; (try clear hb); (try clear hb2); (try clear hk); (try clear hi)) | (go_at_call 10; (with_reducible refine (skel_Alike.calls k (⟨#[97]⟩ : ByteArray) (⟨#[98]⟩ : ByteArray) true _ A6.out (WG.keep HG.out (by repeat (first | (with_reducible first | exact HB.out | apply below_alloc | apply pw_below_drewN | apply below_drew1) | exact HB.out)))).mono ?_); rintro e w11 ⟨rfl, hb⟩; have n0_ := Aside0.mk (below_step (by repeat (first | (with_reducible first | exact HB.out | apply below_alloc | apply pw_below_drewN | apply below_drew1) | exact HB.out)) hb); clear HB; have HB := n0_; clear n0_; (try clear hb); (try clear hb2); (try clear hk); (try clear hi)))
        go_ret
        exact ⟨by first | rfl | (simp [errW_none, errW_some] <;> rfl) | (simp [*, errW_none, errW_some] <;> rfl), by repeat (first | (with_reducible first | exact HB.out | apply below_alloc | apply pw_below_drewN | apply below_drew1) | exact HB.out)⟩
      · replace c7 := Bool.eq_false_iff.mpr c7
        subst c7
        have H1 : ((skel_Skeleton.f k (⟨#[112, 208, 176, 121, 112, 97, 49]⟩ : ByteArray)).bind fun t192 => (if t192.toList = ([112, 97, 121, 112, 97, 108] : List UInt8) then ((skel_Level.f (⟨#[97, 98, 208, 176]⟩ : ByteArray)).bind fun t193 => (if t193 = 5 then ((skel_Level.f (⟨#[97, 98, 99]⟩ : ByteArray)).bind fun t194 => (if t194 = 1 then (if t187 = 2 then (if t188 = 0 then ((skel_Name.f 10).bind fun t195 => (some (t195.toList == ([72, 97, 110] : List UInt8)))) else (some false)) else (some false)) else (some false))) else (some false))) else (some false))) = some r := by rw [if_neg (show ¬ (false = true) by decide)] at H; exact H
        clear H
        have H := H1
        clear H1
        replace H := Option.bind_eq_some_iff.mp H
        obtain ⟨t192, A120, H⟩ := H
        replace H : (if t192.toList = ([112, 97, 121, 112, 97, 108] : List UInt8) then ((skel_Level.f (⟨#[97, 98, 208, 176]⟩ : ByteArray)).bind fun t193 => (if t193 = 5 then ((skel_Level.f (⟨#[97, 98, 99]⟩ : ByteArray)).bind fun t194 => (if t194 = 1 then (if t187 = 2 then (if t188 = 0 then ((skel_Name.f 10).bind fun t195 => (some (t195.toList == ([72, 97, 110] : List UInt8)))) else (some false)) else (some false)) else (some false))) else (some false))) else (some false)) = some r := H
        have A12 := Aside0.mk A120
        clear A120
        by_cases c13 : t192.toList = ([112, 97, 121, 112, 97, 108] : List UInt8)
        · rw [if_pos c13] at H
          have c13b0 : (t192.toList == ([112, 97, 121, 112, 97, 108] : List UInt8)) = true := beq_iff_eq.mpr c13
          have c13b1 : (t192.toList != ([112, 97, 121, 112, 97, 108] : List UInt8)) = false := bne_eq_false_iff_eq.mpr c13
          clear c13
          replace H := Option.bind_eq_some_iff.mp H
          obtain ⟨t193, A140, H⟩ := H
          replace H : (if t193 = 5 then ((skel_Level.f (⟨#[97, 98, 99]⟩ : ByteArray)).bind fun t194 => (if t194 = 1 then (if t187 = 2 then (if t188 = 0 then ((skel_Name.f 10).bind fun t195 => (some (t195.toList == ([72, 97, 110] : List UInt8)))) else (some false)) else (some false)) else (some false))) else (some false)) = some r := H
          have A14 := Aside0.mk A140
          clear A140
          by_cases c15 : t193 = 5
          · rw [if_pos c15] at H
            have c15b0 : (t193 == 5) = true := beq_iff_eq.mpr c15
            have c15b1 : (t193 != 5) = false := bne_eq_false_iff_eq.mpr c15
            clear c15
            replace H := Option.bind_eq_some_iff.mp H
            obtain ⟨t194, A160, H⟩ := H
            replace H : (if t194 = 1 then (if t187 = 2 then (if t188 = 0 then ((skel_Name.f 10).bind fun t195 => (some (t195.toList == ([72, 97, 110] : List UInt8)))) else (some false)) else (some false)) else (some false)) = some r := H
            have A16 := Aside0.mk A160
            clear A160
            by_cases c17 : t194 = 1
            · rw [if_pos c17] at H
              have c17b0 : (t194 == 1) = true := beq_iff_eq.mpr c17
              have c17b1 : (t194 != 1) = false := bne_eq_false_iff_eq.mpr c17
              clear c17
              by_cases c18 : t187 = 2
              · rw [if_pos c18] at H
                have c18b0 : (t187 == 2) = true := beq_iff_eq.mpr c18
                have c18b1 : (t187 != 2) = false := bne_eq_false_iff_eq.mpr c18
                clear c18
                by_cases c19 : t188 = 0
                · rw [if_pos c19] at H
                  have c19b0 : (t188 == 0) = true := beq_iff_eq.mpr c19
                  have c19b1 : (t188 != 0) = false := bne_eq_false_iff_eq.mpr c19
                  clear c19
                  replace H := Option.bind_eq_some_iff.mp H
                  obtain ⟨t195, A200, H⟩ := H
                  replace H : (some (t195.toList == ([72, 97, 110] : List UInt8))) = some r := H
                  have A20 := Aside0.mk A200
                  clear A200
                  obtain rfl := Option.some.inj H
                  go_enter Tryd.func8, Tryd.ntmps8
                  go_wp2_with (first | ((with_reducible refine gate_callee (f := 18) rfl ?_); refine goesL_ (some 4) rfl rfl Tryd.func18 (by kernel_rfl) rfl #[.string (⟨#[76, 97, 116, 105, 110]⟩ : ByteArray)] rfl (by (try simp only [List.map_toArray, List.map_cons, List.map_nil]); first | done | rfl | (simp only [List.length_drop, List.length_take]; rfl)) ?_; (with_reducible refine (skel_Of.calls (⟨#[76, 97, 116, 105, 110]⟩ : ByteArray) t187 t188 _ A1.out).mono ?_); rintro e w21 ⟨rfl, hb⟩; refine ⟨_, rfl, ?_⟩; have n0_ := Aside0.mk (below_step (by repeat (first | (with_reducible first | exact HB.out | apply below_alloc | apply pw_below_drewN | apply below_drew1) | exact HB.out)) hb); clear HB; have HB := n0_; clear n0_; (try clear hb); (try clear hb2); (try clear hk); (try clear hi)) | ((with_reducible refine gate_callee (f := 9) rfl ?_); refine goesL_ (some 7) rfl rfl Tryd.func9 (by kernel_rfl) rfl #[.string (⟨#[109]⟩ : ByteArray)] rfl (by (try simp only [List.map_toArray, List.map_cons, List.map_nil]); first | done | rfl | (simp only [List.length_drop, List.length_take]; rfl)) ?_; (with_reducible refine (skel_Skeleton.calls k (⟨#[109]⟩ : ByteArray) t189 _ A2.out (WG.keep HG.out (by repeat (first | (with_reducible first | exact HB.out | apply below_alloc | apply pw_below_drewN | apply below_drew1) | exact HB.out)))).mono ?_); rintro e w22 ⟨rfl, hb⟩; refine ⟨_, rfl, ?_⟩; have n0_ := Aside0.mk (below_step (by repeat (first | (with_reducible first | exact HB.out | apply below_alloc | apply pw_below_drewN | apply below_drew1) | exact HB.out)) hb); clear HB; have HB := n0_; clear n0_; (try clear hb); (try clear hb2); (try clear hk); (try clear hi)) | (go_at_call 10; (with_reducible refine (skel_Alike.calls k (⟨#[114, 110]⟩ : ByteArray) (⟨#[109]⟩ : ByteArray) true _ A4.out (WG.keep HG.out (by repeat (first | (with_reducible first | exact HB.out | apply below_alloc | apply pw_below_drewN | apply below_drew1) | exact HB.out)))).mono ?_); rintro e w23 ⟨rfl, hb⟩; have n0_ := Aside0.mk (below_step (by repeat (first | (with_reducible first | exact HB.out | apply below_alloc | apply pw_below_drewN | apply below_drew1) | exact HB.out)) hb); clear HB; have HB := n0_; clear n0_; (try clear hb); (try clear hb2); (try clear hk); (try clear hi)) | (go_at_call 10; (with_reducible refine (skel_Alike.calls k (⟨#[97]⟩ : ByteArray) (⟨#[98]⟩ : ByteArray) false _ A6.out (WG.keep HG.out (by repeat (first | (with_reducible first | exact HB.out | apply below_alloc | apply pw_below_drewN | apply below_drew1) | exact HB.out)))).mono ?_); rintro e w24 ⟨rfl, hb⟩; have n0_ := Aside0.mk (below_step (by repeat (first | (with_reducible first | exact HB.out | apply below_alloc | apply pw_below_drewN | apply below_drew1) | exact HB.out)) hb); clear HB; have HB := n0_; clear n0_; (try clear hb); (try clear hb2); (try clear hk); (try clear hi)) | (go_at_call 9; (with_reducible refine (skel_Skeleton.calls k (⟨#[112, 208, 176, 121, 112, 97, 49]⟩ : ByteArray) t192 _ A12.out (WG.keep HG.out (by repeat (first | (with_reducible first | exact HB.out | apply below_alloc | apply pw_below_drewN | apply below_drew1) | exact HB.out)))).mono ?_); rintro e w25 ⟨rfl, hb⟩; have n0_ := Aside0.mk (below_step (by repeat (first | (with_reducible first | exact HB.out | apply below_alloc | apply pw_below_drewN | apply below_drew1) | exact HB.out)) hb); clear HB; have HB := n0_; clear n0_; (try clear hb); (try clear hb2); (try clear hk); (try clear hi)) | (go_at_call 15; (with_reducible refine (skel_Level.calls (⟨#[97, 98, 208, 176]⟩ : ByteArray) t193 _ A14.out (WG.keep HG.out (by repeat (first | (with_reducible first | exact HB.out | apply below_alloc | apply pw_below_drewN | apply below_drew1) | exact HB.out)))).mono ?_); rintro e w26 ⟨rfl, hb⟩; have n0_ := Aside0.mk (below_step (by repeat (first | (with_reducible first | exact HB.out | apply below_alloc | apply pw_below_drewN | apply below_drew1) | exact HB.out)) hb); clear HB; have HB := n0_; clear n0_; (try clear hb); (try clear hb2); (try clear hk); (try clear hi)) | (go_at_call 15; (with_reducible refine (skel_Level.calls (⟨#[97, 98, 99]⟩ : ByteArray) t194 _ A16.out (WG.keep HG.out (by repeat (first | (with_reducible first | exact HB.out | apply below_alloc | apply pw_below_drewN | apply below_drew1) | exact HB.out)))).mono ?_); rintro e w27 ⟨rfl, hb⟩; have n0_ := Aside0.mk (below_step (by repeat (first | (with_reducible first | exact HB.out | apply below_alloc | apply pw_below_drewN | apply below_drew1) | exact HB.out)) hb); clear HB; have HB := n0_; clear n0_; (try clear hb); (try clear hb2); (try clear hk); (try clear hi)) | (go_at_call 19; (with_reducible refine (skel_Name.calls 10 t195 _ A20.out).mono ?_); rintro e w28 ⟨rfl, hb⟩; have n0_ := Aside0.mk (below_step (by repeat (first | (with_reducible first | exact HB.out | apply below_alloc | apply pw_below_drewN | apply below_drew1) | exact HB.out)) hb); clear HB; have HB := n0_; clear n0_; (try clear hb); (try clear hb2); (try clear hk); (try clear hi)))
                  go_ret
                  exact ⟨by first | rfl | (simp [errW_none, errW_some] <;> rfl) | (simp [*, errW_none, errW_some] <;> rfl), by repeat (first | (with_reducible first | exact HB.out | apply below_alloc | apply pw_below_drewN | apply below_drew1) | exact HB.out)⟩
                · rw [if_neg c19] at H
                  have c19b0 : (t188 == 0) = false := beq_eq_false_iff_ne.mpr c19
                  have c19b1 : (t188 != 0) = true := bne_iff_ne.mpr c19
                  obtain rfl := Option.some.inj H
                  go_enter Tryd.func8, Tryd.ntmps8
                  go_wp2_with (first | ((with_reducible refine gate_callee (f := 18) rfl ?_); refine goesL_ (some 4) rfl rfl Tryd.func18 (by kernel_rfl) rfl #[.string (⟨#[76, 97, 116, 105, 110]⟩ : ByteArray)] rfl (by (try simp only [List.map_toArray, List.map_cons, List.map_nil]); first | done | rfl | (simp only [List.length_drop, List.length_take]; rfl)) ?_; (with_reducible refine (skel_Of.calls (⟨#[76, 97, 116, 105, 110]⟩ : ByteArray) t187 t188 _ A1.out).mono ?_); rintro e w29 ⟨rfl, hb⟩; refine ⟨_, rfl, ?_⟩; have n0_ := Aside0.mk (below_step (by repeat (first | (with_reducible first | exact HB.out | apply below_alloc | apply pw_below_drewN | apply below_drew1) | exact HB.out)) hb); clear HB; have HB := n0_; clear n0_; (try clear hb); (try clear hb2); (try clear hk); (try clear hi)) | ((with_reducible refine gate_callee (f := 9) rfl ?_); refine goesL_ (some 7) rfl rfl Tryd.func9 (by kernel_rfl) rfl #[.string (⟨#[109]⟩ : ByteArray)] rfl (by (try simp only [List.map_toArray, List.map_cons, List.map_nil]); first | done | rfl | (simp only [List.length_drop, List.length_take]; rfl)) ?_; (with_reducible refine (skel_Skeleton.calls k (⟨#[109]⟩ : ByteArray) t189 _ A2.out (WG.keep HG.out (by repeat (first | (with_reducible first | exact HB.out | apply below_alloc | apply pw_below_drewN | apply below_drew1) | exact HB.out)))).mono ?_); rintro e w30 ⟨rfl, hb⟩; refine ⟨_, rfl, ?_⟩; have n0_ := Aside0.mk (below_step (by repeat (first | (with_reducible first | exact HB.out | apply below_alloc | apply pw_below_drewN | apply below_drew1) | exact HB.out)) hb); clear HB; have HB := n0_; clear n0_; (try clear hb); (try clear hb2); (try clear hk); (try clear hi)) | (go_at_call 10; (with_reducible refine (skel_Alike.calls k (⟨#[114, 110]⟩ : ByteArray) (⟨#[109]⟩ : ByteArray) true _ A4.out (WG.keep HG.out (by repeat (first | (with_reducible first | exact HB.out | apply below_alloc | apply pw_below_drewN | apply below_drew1) | exact HB.out)))).mono ?_); rintro e w31 ⟨rfl, hb⟩; have n0_ := Aside0.mk (below_step (by repeat (first | (with_reducible first | exact HB.out | apply below_alloc | apply pw_below_drewN | apply below_drew1) | exact HB.out)) hb); clear HB; have HB := n0_; clear n0_; (try clear hb); (try clear hb2); (try clear hk); (try clear hi)) | (go_at_call 10; (with_reducible refine (skel_Alike.calls k (⟨#[97]⟩ : ByteArray) (⟨#[98]⟩ : ByteArray) false _ A6.out (WG.keep HG.out (by repeat (first | (with_reducible first | exact HB.out | apply below_alloc | apply pw_below_drewN | apply below_drew1) | exact HB.out)))).mono ?_); rintro e w32 ⟨rfl, hb⟩; have n0_ := Aside0.mk (below_step (by repeat (first | (with_reducible first | exact HB.out | apply below_alloc | apply pw_below_drewN | apply below_drew1) | exact HB.out)) hb); clear HB; have HB := n0_; clear n0_; (try clear hb); (try clear hb2); (try clear hk); (try clear hi)) | (go_at_call 9; (with_reducible refine (skel_Skeleton.calls k (⟨#[112, 208, 176, 121, 112, 97, 49]⟩ : ByteArray) t192 _ A12.out (WG.keep HG.out (by repeat (first | (with_reducible first | exact HB.out | apply below_alloc | apply pw_below_drewN | apply below_drew1) | exact HB.out)))).mono ?_); rintro e w33 ⟨rfl, hb⟩; have n0_ := Aside0.mk (below_step (by repeat (first | (with_reducible first | exact HB.out | apply below_alloc | apply pw_below_drewN | apply below_drew1) | exact HB.out)) hb); clear HB; have HB := n0_; clear n0_; (try clear hb); (try clear hb2); (try clear hk); (try clear hi)) | (go_at_call 15; (with_reducible refine (skel_Level.calls (⟨#[97, 98, 208, 176]⟩ : ByteArray) t193 _ A14.out (WG.keep HG.out (by repeat (first | (with_reducible first | exact HB.out | apply below_alloc | apply pw_below_drewN | apply below_drew1) | exact HB.out)))).mono ?_); rintro e w34 ⟨rfl, hb⟩; have n0_ := Aside0.mk (below_step (by repeat (first | (with_reducible first | exact HB.out | apply below_alloc | apply pw_below_drewN | apply below_drew1) | exact HB.out)) hb); clear HB; have HB := n0_; clear n0_; (try clear hb); (try clear hb2); (try clear hk); (try clear hi)) | (go_at_call 15; (with_reducible refine (skel_Level.calls (⟨#[97, 98, 99]⟩ : ByteArray) t194 _ A16.out (WG.keep HG.out (by repeat (first | (with_reducible first | exact HB.out | apply below_alloc | apply pw_below_drewN | apply below_drew1) | exact HB.out)))).mono ?_); rintro e w35 ⟨rfl, hb⟩; have n0_ := Aside0.mk (below_step (by repeat (first | (with_reducible first | exact HB.out | apply below_alloc | apply pw_below_drewN | apply below_drew1) | exact HB.out)) hb); clear HB; have HB := n0_; clear n0_; (try clear hb); (try clear hb2); (try clear hk); (try clear hi)))
                  go_ret
                  exact ⟨by first | rfl | (simp [errW_none, errW_some] <;> rfl) | (simp [*, errW_none, errW_some] <;> rfl), by repeat (first | (with_reducible first | exact HB.out | apply below_alloc | apply pw_below_drewN | apply below_drew1) | exact HB.out)⟩
              · rw [if_neg c18] at H
                have c18b0 : (t187 == 2) = false := beq_eq_false_iff_ne.mpr c18
                have c18b1 : (t187 != 2) = true := bne_iff_ne.mpr c18
                obtain rfl := Option.some.inj H
                go_enter Tryd.func8, Tryd.ntmps8
                go_wp2_with (first | ((with_reducible refine gate_callee (f := 18) rfl ?_); refine goesL_ (some 4) rfl rfl Tryd.func18 (by kernel_rfl) rfl #[.string (⟨#[76, 97, 116, 105, 110]⟩ : ByteArray)] rfl (by (try simp only [List.map_toArray, List.map_cons, List.map_nil]); first | done | rfl | (simp only [List.length_drop, List.length_take]; rfl)) ?_; (with_reducible refine (skel_Of.calls (⟨#[76, 97, 116, 105, 110]⟩ : ByteArray) t187 t188 _ A1.out).mono ?_); rintro e w36 ⟨rfl, hb⟩; refine ⟨_, rfl, ?_⟩; have n0_ := Aside0.mk (below_step (by repeat (first | (with_reducible first | exact HB.out | apply below_alloc | apply pw_below_drewN | apply below_drew1) | exact HB.out)) hb); clear HB; have HB := n0_; clear n0_; (try clear hb); (try clear hb2); (try clear hk); (try clear hi)) | ((with_reducible refine gate_callee (f := 9) rfl ?_); refine goesL_ (some 7) rfl rfl Tryd.func9 (by kernel_rfl) rfl #[.string (⟨#[109]⟩ : ByteArray)] rfl (by (try simp only [List.map_toArray, List.map_cons, List.map_nil]); first | done | rfl | (simp only [List.length_drop, List.length_take]; rfl)) ?_; (with_reducible refine (skel_Skeleton.calls k (⟨#[109]⟩ : ByteArray) t189 _ A2.out (WG.keep HG.out (by repeat (first | (with_reducible first | exact HB.out | apply below_alloc | apply pw_below_drewN | apply below_drew1) | exact HB.out)))).mono ?_); rintro e w37 ⟨rfl, hb⟩; refine ⟨_, rfl, ?_⟩; have n0_ := Aside0.mk (below_step (by repeat (first | (with_reducible first | exact HB.out | apply below_alloc | apply pw_below_drewN | apply below_drew1) | exact HB.out)) hb); clear HB; have HB := n0_; clear n0_; (try clear hb); (try clear hb2); (try clear hk); (try clear hi)) | (go_at_call 10; (with_reducible refine (skel_Alike.calls k (⟨#[114, 110]⟩ : ByteArray) (⟨#[109]⟩ : ByteArray) true _ A4.out (WG.keep HG.out (by repeat (first | (with_reducible first | exact HB.out | apply below_alloc | apply pw_below_drewN | apply below_drew1) | exact HB.out)))).mono ?_); rintro e w38 ⟨rfl, hb⟩; have n0_ := Aside0.mk (below_step (by repeat (first | (with_reducible first | exact HB.out | apply below_alloc | apply pw_below_drewN | apply below_drew1) | exact HB.out)) hb); clear HB; have HB := n0_; clear n0_; (try clear hb); (try clear hb2); (try clear hk); (try clear hi)) | (go_at_call 10; (with_reducible refine (skel_Alike.calls k (⟨#[97]⟩ : ByteArray) (⟨#[98]⟩ : ByteArray) false _ A6.out (WG.keep HG.out (by repeat (first | (with_reducible first | exact HB.out | apply below_alloc | apply pw_below_drewN | apply below_drew1) | exact HB.out)))).mono ?_); rintro e w39 ⟨rfl, hb⟩; have n0_ := Aside0.mk (below_step (by repeat (first | (with_reducible first | exact HB.out | apply below_alloc | apply pw_below_drewN | apply below_drew1) | exact HB.out)) hb); clear HB; have HB := n0_; clear n0_; (try clear hb); (try clear hb2); (try clear hk); (try clear hi)) | (go_at_call 9; (with_reducible refine (skel_Skeleton.calls k (⟨#[112, 208, 176, 121, 112, 97, 49]⟩ : ByteArray) t192 _ A12.out (WG.keep HG.out (by repeat (first | (with_reducible first | exact HB.out | apply below_alloc | apply pw_below_drewN | apply below_drew1) | exact HB.out)))).mono ?_); rintro e w40 ⟨rfl, hb⟩; have n0_ := Aside0.mk (below_step (by repeat (first | (with_reducible first | exact HB.out | apply below_alloc | apply pw_below_drewN | apply below_drew1) | exact HB.out)) hb); clear HB; have HB := n0_; clear n0_; (try clear hb); (try clear hb2); (try clear hk); (try clear hi)) | (go_at_call 15; (with_reducible refine (skel_Level.calls (⟨#[97, 98, 208, 176]⟩ : ByteArray) t193 _ A14.out (WG.keep HG.out (by repeat (first | (with_reducible first | exact HB.out | apply below_alloc | apply pw_below_drewN | apply below_drew1) | exact HB.out)))).mono ?_); rintro e w41 ⟨rfl, hb⟩; have n0_ := Aside0.mk (below_step (by repeat (first | (with_reducible first | exact HB.out | apply below_alloc | apply pw_below_drewN | apply below_drew1) | exact HB.out)) hb); clear HB; have HB := n0_; clear n0_; (try clear hb); (try clear hb2); (try clear hk); (try clear hi)) | (go_at_call 15; (with_reducible refine (skel_Level.calls (⟨#[97, 98, 99]⟩ : ByteArray) t194 _ A16.out (WG.keep HG.out (by repeat (first | (with_reducible first | exact HB.out | apply below_alloc | apply pw_below_drewN | apply below_drew1) | exact HB.out)))).mono ?_); rintro e w42 ⟨rfl, hb⟩; have n0_ := Aside0.mk (below_step (by repeat (first | (with_reducible first | exact HB.out | apply below_alloc | apply pw_below_drewN | apply below_drew1) | exact HB.out)) hb); clear HB; have HB := n0_; clear n0_; (try clear hb); (try clear hb2); (try clear hk); (try clear hi)))
                go_ret
                exact ⟨by first | rfl | (simp [errW_none, errW_some] <;> rfl) | (simp [*, errW_none, errW_some] <;> rfl), by repeat (first | (with_reducible first | exact HB.out | apply below_alloc | apply pw_below_drewN | apply below_drew1) | exact HB.out)⟩
            · rw [if_neg c17] at H
              have c17b0 : (t194 == 1) = false := beq_eq_false_iff_ne.mpr c17
              have c17b1 : (t194 != 1) = true := bne_iff_ne.mpr c17
              obtain rfl := Option.some.inj H
              go_enter Tryd.func8, Tryd.ntmps8
              go_wp2_with (first | ((with_reducible refine gate_callee (f := 18) rfl ?_); refine goesL_ (some 4) rfl rfl Tryd.func18 (by kernel_rfl) rfl #[.string (⟨#[76, 97, 116, 105, 110]⟩ : ByteArray)] rfl (by (try simp only [List.map_toArray, List.map_cons, List.map_nil]); first | done | rfl | (simp only [List.length_drop, List.length_take]; rfl)) ?_; (with_reducible refine (skel_Of.calls (⟨#[76, 97, 116, 105, 110]⟩ : ByteArray) t187 t188 _ A1.out).mono ?_); rintro e w43 ⟨rfl, hb⟩; refine ⟨_, rfl, ?_⟩; have n0_ := Aside0.mk (below_step (by repeat (first | (with_reducible first | exact HB.out | apply below_alloc | apply pw_below_drewN | apply below_drew1) | exact HB.out)) hb); clear HB; have HB := n0_; clear n0_; (try clear hb); (try clear hb2); (try clear hk); (try clear hi)) | ((with_reducible refine gate_callee (f := 9) rfl ?_); refine goesL_ (some 7) rfl rfl Tryd.func9 (by kernel_rfl) rfl #[.string (⟨#[109]⟩ : ByteArray)] rfl (by (try simp only [List.map_toArray, List.map_cons, List.map_nil]); first | done | rfl | (simp only [List.length_drop, List.length_take]; rfl)) ?_; (with_reducible refine (skel_Skeleton.calls k (⟨#[109]⟩ : ByteArray) t189 _ A2.out (WG.keep HG.out (by repeat (first | (with_reducible first | exact HB.out | apply below_alloc | apply pw_below_drewN | apply below_drew1) | exact HB.out)))).mono ?_); rintro e w44 ⟨rfl, hb⟩; refine ⟨_, rfl, ?_⟩; have n0_ := Aside0.mk (below_step (by repeat (first | (with_reducible first | exact HB.out | apply below_alloc | apply pw_below_drewN | apply below_drew1) | exact HB.out)) hb); clear HB; have HB := n0_; clear n0_; (try clear hb); (try clear hb2); (try clear hk); (try clear hi)) | (go_at_call 10; (with_reducible refine (skel_Alike.calls k (⟨#[114, 110]⟩ : ByteArray) (⟨#[109]⟩ : ByteArray) true _ A4.out (WG.keep HG.out (by repeat (first | (with_reducible first | exact HB.out | apply below_alloc | apply pw_below_drewN | apply below_drew1) | exact HB.out)))).mono ?_); rintro e w45 ⟨rfl, hb⟩; have n0_ := Aside0.mk (below_step (by repeat (first | (with_reducible first | exact HB.out | apply below_alloc | apply pw_below_drewN | apply below_drew1) | exact HB.out)) hb); clear HB; have HB := n0_; clear n0_; (try clear hb); (try clear hb2); (try clear hk); (try clear hi)) | (go_at_call 10; (with_reducible refine (skel_Alike.calls k (⟨#[97]⟩ : ByteArray) (⟨#[98]⟩ : ByteArray) false _ A6.out (WG.keep HG.out (by repeat (first | (with_reducible first | exact HB.out | apply below_alloc | apply pw_below_drewN | apply below_drew1) | exact HB.out)))).mono ?_); rintro e w46 ⟨rfl, hb⟩; have n0_ := Aside0.mk (below_step (by repeat (first | (with_reducible first | exact HB.out | apply below_alloc | apply pw_below_drewN | apply below_drew1) | exact HB.out)) hb); clear HB; have HB := n0_; clear n0_; (try clear hb); (try clear hb2); (try clear hk); (try clear hi)) | (go_at_call 9; (with_reducible refine (skel_Skeleton.calls k (⟨#[112, 208, 176, 121, 112, 97, 49]⟩ : ByteArray) t192 _ A12.out (WG.keep HG.out (by repeat (first | (with_reducible first | exact HB.out | apply below_alloc | apply pw_below_drewN | apply below_drew1) | exact HB.out)))).mono ?_); rintro e w47 ⟨rfl, hb⟩; have n0_ := Aside0.mk (below_step (by repeat (first | (with_reducible first | exact HB.out | apply below_alloc | apply pw_below_drewN | apply below_drew1) | exact HB.out)) hb); clear HB; have HB := n0_; clear n0_; (try clear hb); (try clear hb2); (try clear hk); (try clear hi)) | (go_at_call 15; (with_reducible refine (skel_Level.calls (⟨#[97, 98, 208, 176]⟩ : ByteArray) t193 _ A14.out (WG.keep HG.out (by repeat (first | (with_reducible first | exact HB.out | apply below_alloc | apply pw_below_drewN | apply below_drew1) | exact HB.out)))).mono ?_); rintro e w48 ⟨rfl, hb⟩; have n0_ := Aside0.mk (below_step (by repeat (first | (with_reducible first | exact HB.out | apply below_alloc | apply pw_below_drewN | apply below_drew1) | exact HB.out)) hb); clear HB; have HB := n0_; clear n0_; (try clear hb); (try clear hb2); (try clear hk); (try clear hi)) | (go_at_call 15; (with_reducible refine (skel_Level.calls (⟨#[97, 98, 99]⟩ : ByteArray) t194 _ A16.out (WG.keep HG.out (by repeat (first | (with_reducible first | exact HB.out | apply below_alloc | apply pw_below_drewN | apply below_drew1) | exact HB.out)))).mono ?_); rintro e w49 ⟨rfl, hb⟩; have n0_ := Aside0.mk (below_step (by repeat (first | (with_reducible first | exact HB.out | apply below_alloc | apply pw_below_drewN | apply below_drew1) | exact HB.out)) hb); clear HB; have HB := n0_; clear n0_; (try clear hb); (try clear hb2); (try clear hk); (try clear hi)))
              go_ret
              exact ⟨by first | rfl | (simp [errW_none, errW_some] <;> rfl) | (simp [*, errW_none, errW_some] <;> rfl), by repeat (first | (with_reducible first | exact HB.out | apply below_alloc | apply pw_below_drewN | apply below_drew1) | exact HB.out)⟩
          · rw [if_neg c15] at H
            have c15b0 : (t193 == 5) = false := beq_eq_false_iff_ne.mpr c15
            have c15b1 : (t193 != 5) = true := bne_iff_ne.mpr c15
            obtain rfl := Option.some.inj H
            go_enter Tryd.func8, Tryd.ntmps8
            go_wp2_with (first | ((with_reducible refine gate_callee (f := 18) rfl ?_); refine goesL_ (some 4) rfl rfl Tryd.func18 (by kernel_rfl) rfl #[.string (⟨#[76, 97, 116, 105, 110]⟩ : ByteArray)] rfl (by (try simp only [List.map_toArray, List.map_cons, List.map_nil]); first | done | rfl | (simp only [List.length_drop, List.length_take]; rfl)) ?_; (with_reducible refine (skel_Of.calls (⟨#[76, 97, 116, 105, 110]⟩ : ByteArray) t187 t188 _ A1.out).mono ?_); rintro e w50 ⟨rfl, hb⟩; refine ⟨_, rfl, ?_⟩; have n0_ := Aside0.mk (below_step (by repeat (first | (with_reducible first | exact HB.out | apply below_alloc | apply pw_below_drewN | apply below_drew1) | exact HB.out)) hb); clear HB; have HB := n0_; clear n0_; (try clear hb); (try clear hb2); (try clear hk); (try clear hi)) | ((with_reducible refine gate_callee (f := 9) rfl ?_); refine goesL_ (some 7) rfl rfl Tryd.func9 (by kernel_rfl) rfl #[.string (⟨#[109]⟩ : ByteArray)] rfl (by (try simp only [List.map_toArray, List.map_cons, List.map_nil]); first | done | rfl | (simp only [List.length_drop, List.length_take]; rfl)) ?_; (with_reducible refine (skel_Skeleton.calls k (⟨#[109]⟩ : ByteArray) t189 _ A2.out (WG.keep HG.out (by repeat (first | (with_reducible first | exact HB.out | apply below_alloc | apply pw_below_drewN | apply below_drew1) | exact HB.out)))).mono ?_); rintro e w51 ⟨rfl, hb⟩; refine ⟨_, rfl, ?_⟩; have n0_ := Aside0.mk (below_step (by repeat (first | (with_reducible first | exact HB.out | apply below_alloc | apply pw_below_drewN | apply below_drew1) | exact HB.out)) hb); clear HB; have HB := n0_; clear n0_; (try clear hb); (try clear hb2); (try clear hk); (try clear hi)) | (go_at_call 10; (with_reducible refine (skel_Alike.calls k (⟨#[114, 110]⟩ : ByteArray) (⟨#[109]⟩ : ByteArray) true _ A4.out (WG.keep HG.out (by repeat (first | (with_reducible first | exact HB.out | apply below_alloc | apply pw_below_drewN | apply below_drew1) | exact HB.out)))).mono ?_); rintro e w52 ⟨rfl, hb⟩; have n0_ := Aside0.mk (below_step (by repeat (first | (with_reducible first | exact HB.out | apply below_alloc | apply pw_below_drewN | apply below_drew1) | exact HB.out)) hb); clear HB; have HB := n0_; clear n0_; (try clear hb); (try clear hb2); (try clear hk); (try clear hi)) | (go_at_call 10; (with_reducible refine (skel_Alike.calls k (⟨#[97]⟩ : ByteArray) (⟨#[98]⟩ : ByteArray) false _ A6.out (WG.keep HG.out (by repeat (first | (with_reducible first | exact HB.out | apply below_alloc | apply pw_below_drewN | apply below_drew1) | exact HB.out)))).mono ?_); rintro e w53 ⟨rfl, hb⟩; have n0_ := Aside0.mk (below_step (by repeat (first | (with_reducible first | exact HB.out | apply below_alloc | apply pw_below_drewN | apply below_drew1) | exact HB.out)) hb); clear HB; have HB := n0_; clear n0_; (try clear hb); (try clear hb2); (try clear hk); (try clear hi)) | (go_at_call 9; (with_reducible refine (skel_Skeleton.calls k (⟨#[112, 208, 176, 121, 112, 97, 49]⟩ : ByteArray) t192 _ A12.out (WG.keep HG.out (by repeat (first | (with_reducible first | exact HB.out | apply below_alloc | apply pw_below_drewN | apply below_drew1) | exact HB.out)))).mono ?_); rintro e w54 ⟨rfl, hb⟩; have n0_ := Aside0.mk (below_step (by repeat (first | (with_reducible first | exact HB.out | apply below_alloc | apply pw_below_drewN | apply below_drew1) | exact HB.out)) hb); clear HB; have HB := n0_; clear n0_; (try clear hb); (try clear hb2); (try clear hk); (try clear hi)) | (go_at_call 15; (with_reducible refine (skel_Level.calls (⟨#[97, 98, 208, 176]⟩ : ByteArray) t193 _ A14.out (WG.keep HG.out (by repeat (first | (with_reducible first | exact HB.out | apply below_alloc | apply pw_below_drewN | apply below_drew1) | exact HB.out)))).mono ?_); rintro e w55 ⟨rfl, hb⟩; have n0_ := Aside0.mk (below_step (by repeat (first | (with_reducible first | exact HB.out | apply below_alloc | apply pw_below_drewN | apply below_drew1) | exact HB.out)) hb); clear HB; have HB := n0_; clear n0_; (try clear hb); (try clear hb2); (try clear hk); (try clear hi)))
            go_ret
            exact ⟨by first | rfl | (simp [errW_none, errW_some] <;> rfl) | (simp [*, errW_none, errW_some] <;> rfl), by repeat (first | (with_reducible first | exact HB.out | apply below_alloc | apply pw_below_drewN | apply below_drew1) | exact HB.out)⟩
        · rw [if_neg c13] at H
          have c13b0 : (t192.toList == ([112, 97, 121, 112, 97, 108] : List UInt8)) = false := beq_eq_false_iff_ne.mpr c13
          have c13b1 : (t192.toList != ([112, 97, 121, 112, 97, 108] : List UInt8)) = true := bne_iff_ne.mpr c13
          obtain rfl := Option.some.inj H
          go_enter Tryd.func8, Tryd.ntmps8
          go_wp2_with (first | ((with_reducible refine gate_callee (f := 18) rfl ?_); refine goesL_ (some 4) rfl rfl Tryd.func18 (by kernel_rfl) rfl #[.string (⟨#[76, 97, 116, 105, 110]⟩ : ByteArray)] rfl (by (try simp only [List.map_toArray, List.map_cons, List.map_nil]); first | done | rfl | (simp only [List.length_drop, List.length_take]; rfl)) ?_; (with_reducible refine (skel_Of.calls (⟨#[76, 97, 116, 105, 110]⟩ : ByteArray) t187 t188 _ A1.out).mono ?_); rintro e w56 ⟨rfl, hb⟩; refine ⟨_, rfl, ?_⟩; have n0_ := Aside0.mk (below_step (by repeat (first | (with_reducible first | exact HB.out | apply below_alloc | apply pw_below_drewN | apply below_drew1) | exact HB.out)) hb); clear HB; have HB := n0_; clear n0_; (try clear hb); (try clear hb2); (try clear hk); (try clear hi)) | ((with_reducible refine gate_callee (f := 9) rfl ?_); refine goesL_ (some 7) rfl rfl Tryd.func9 (by kernel_rfl) rfl #[.string (⟨#[109]⟩ : ByteArray)] rfl (by (try simp only [List.map_toArray, List.map_cons, List.map_nil]); first | done | rfl | (simp only [List.length_drop, List.length_take]; rfl)) ?_; (with_reducible refine (skel_Skeleton.calls k (⟨#[109]⟩ : ByteArray) t189 _ A2.out (WG.keep HG.out (by repeat (first | (with_reducible first | exact HB.out | apply below_alloc | apply pw_below_drewN | apply below_drew1) | exact HB.out)))).mono ?_); rintro e w57 ⟨rfl, hb⟩; refine ⟨_, rfl, ?_⟩; have n0_ := Aside0.mk (below_step (by repeat (first | (with_reducible first | exact HB.out | apply below_alloc | apply pw_below_drewN | apply below_drew1) | exact HB.out)) hb); clear HB; have HB := n0_; clear n0_; (try clear hb); (try clear hb2); (try clear hk); (try clear hi)) | (go_at_call 10; (with_reducible refine (skel_Alike.calls k (⟨#[114, 110]⟩ : ByteArray) (⟨#[109]⟩ : ByteArray) true _ A4.out (WG.keep HG.out (by repeat (first | (with_reducible first | exact HB.out | apply below_alloc | apply pw_below_drewN | apply below_drew1) | exact HB.out)))).mono ?_); rintro e w58 ⟨rfl, hb⟩; have n0_ := Aside0.mk (below_step (by repeat (first | (with_reducible first | exact HB.out | apply below_alloc | apply pw_below_drewN | apply below_drew1) | exact HB.out)) hb); clear HB; have HB := n0_; clear n0_; (try clear hb); (try clear hb2); (try clear hk); (try clear hi)) | (go_at_call 10; (with_reducible refine (skel_Alike.calls k (⟨#[97]⟩ : ByteArray) (⟨#[98]⟩ : ByteArray) false _ A6.out (WG.keep HG.out (by repeat (first | (with_reducible first | exact HB.out | apply below_alloc | apply pw_below_drewN | apply below_drew1) | exact HB.out)))).mono ?_); rintro e w59 ⟨rfl, hb⟩; have n0_ := Aside0.mk (below_step (by repeat (first | (with_reducible first | exact HB.out | apply below_alloc | apply pw_below_drewN | apply below_drew1) | exact HB.out)) hb); clear HB; have HB := n0_; clear n0_; (try clear hb); (try clear hb2); (try clear hk); (try clear hi)) | (go_at_call 9; (with_reducible refine (skel_Skeleton.calls k (⟨#[112, 208, 176, 121, 112, 97, 49]⟩ : ByteArray) t192 _ A12.out (WG.keep HG.out (by repeat (first | (with_reducible first | exact HB.out | apply below_alloc | apply pw_below_drewN | apply below_drew1) | exact HB.out)))).mono ?_); rintro e w60 ⟨rfl, hb⟩; have n0_ := Aside0.mk (below_step (by repeat (first | (with_reducible first | exact HB.out | apply below_alloc | apply pw_below_drewN | apply below_drew1) | exact HB.out)) hb); clear HB; have HB := n0_; clear n0_; (try clear hb); (try clear hb2); (try clear hk); (try clear hi)))
          go_ret
          exact ⟨by first | rfl | (simp [errW_none, errW_some] <;> rfl) | (simp [*, errW_none, errW_some] <;> rfl), by repeat (first | (with_reducible first | exact HB.out | apply below_alloc | apply pw_below_drewN | apply below_drew1) | exact HB.out)⟩
    · replace c5 := Bool.eq_false_iff.mpr c5
      subst c5
      have H1 : (some false) = some r := by rw [if_neg (show ¬ (false = true) by decide)] at H; exact H
      clear H
      have H := H1
      clear H1
      obtain rfl := Option.some.inj H
      go_enter Tryd.func8, Tryd.ntmps8
      go_wp2_with (first | ((with_reducible refine gate_callee (f := 18) rfl ?_); refine goesL_ (some 4) rfl rfl Tryd.func18 (by kernel_rfl) rfl #[.string (⟨#[76, 97, 116, 105, 110]⟩ : ByteArray)] rfl (by (try simp only [List.map_toArray, List.map_cons, List.map_nil]); first | done | rfl | (simp only [List.length_drop, List.length_take]; rfl)) ?_; (with_reducible refine (skel_Of.calls (⟨#[76, 97, 116, 105, 110]⟩ : ByteArray) t187 t188 _ A1.out).mono ?_); rintro e w61 ⟨rfl, hb⟩; refine ⟨_, rfl, ?_⟩; have n0_ := Aside0.mk (below_step (by repeat (first | (with_reducible first | exact HB.out | apply below_alloc | apply pw_below_drewN | apply below_drew1) | exact HB.out)) hb); clear HB; have HB := n0_; clear n0_; (try clear hb); (try clear hb2); (try clear hk); (try clear hi)) | ((with_reducible refine gate_callee (f := 9) rfl ?_); refine goesL_ (some 7) rfl rfl Tryd.func9 (by kernel_rfl) rfl #[.string (⟨#[109]⟩ : ByteArray)] rfl (by (try simp only [List.map_toArray, List.map_cons, List.map_nil]); first | done | rfl | (simp only [List.length_drop, List.length_take]; rfl)) ?_; (with_reducible refine (skel_Skeleton.calls k (⟨#[109]⟩ : ByteArray) t189 _ A2.out (WG.keep HG.out (by repeat (first | (with_reducible first | exact HB.out | apply below_alloc | apply pw_below_drewN | apply below_drew1) | exact HB.out)))).mono ?_); rintro e w62 ⟨rfl, hb⟩; refine ⟨_, rfl, ?_⟩; have n0_ := Aside0.mk (below_step (by repeat (first | (with_reducible first | exact HB.out | apply below_alloc | apply pw_below_drewN | apply below_drew1) | exact HB.out)) hb); clear HB; have HB := n0_; clear n0_; (try clear hb); (try clear hb2); (try clear hk); (try clear hi)) | (go_at_call 10; (with_reducible refine (skel_Alike.calls k (⟨#[114, 110]⟩ : ByteArray) (⟨#[109]⟩ : ByteArray) false _ A4.out (WG.keep HG.out (by repeat (first | (with_reducible first | exact HB.out | apply below_alloc | apply pw_below_drewN | apply below_drew1) | exact HB.out)))).mono ?_); rintro e w63 ⟨rfl, hb⟩; have n0_ := Aside0.mk (below_step (by repeat (first | (with_reducible first | exact HB.out | apply below_alloc | apply pw_below_drewN | apply below_drew1) | exact HB.out)) hb); clear HB; have HB := n0_; clear n0_; (try clear hb); (try clear hb2); (try clear hk); (try clear hi)))
      go_ret
      exact ⟨by first | rfl | (simp [errW_none, errW_some] <;> rfl) | (simp [*, errW_none, errW_some] <;> rfl), by repeat (first | (with_reducible first | exact HB.out | apply below_alloc | apply pw_below_drewN | apply below_drew1) | exact HB.out)⟩
  · rw [if_neg c3] at H
    have c3b0 : (t189.toList == ([114, 110] : List UInt8)) = false := beq_eq_false_iff_ne.mpr c3
    have c3b1 : (t189.toList != ([114, 110] : List UInt8)) = true := bne_iff_ne.mpr c3
    obtain rfl := Option.some.inj H
    go_enter Tryd.func8, Tryd.ntmps8
    go_wp2_with (first | ((with_reducible refine gate_callee (f := 18) rfl ?_); refine goesL_ (some 4) rfl rfl Tryd.func18 (by kernel_rfl) rfl #[.string (⟨#[76, 97, 116, 105, 110]⟩ : ByteArray)] rfl (by (try simp only [List.map_toArray, List.map_cons, List.map_nil]); first | done | rfl | (simp only [List.length_drop, List.length_take]; rfl)) ?_; (with_reducible refine (skel_Of.calls (⟨#[76, 97, 116, 105, 110]⟩ : ByteArray) t187 t188 _ A1.out).mono ?_); rintro e w64 ⟨rfl, hb⟩; refine ⟨_, rfl, ?_⟩; have n0_ := Aside0.mk (below_step (by repeat (first | (with_reducible first | exact HB.out | apply below_alloc | apply pw_below_drewN | apply below_drew1) | exact HB.out)) hb); clear HB; have HB := n0_; clear n0_; (try clear hb); (try clear hb2); (try clear hk); (try clear hi)) | ((with_reducible refine gate_callee (f := 9) rfl ?_); refine goesL_ (some 7) rfl rfl Tryd.func9 (by kernel_rfl) rfl #[.string (⟨#[109]⟩ : ByteArray)] rfl (by (try simp only [List.map_toArray, List.map_cons, List.map_nil]); first | done | rfl | (simp only [List.length_drop, List.length_take]; rfl)) ?_; (with_reducible refine (skel_Skeleton.calls k (⟨#[109]⟩ : ByteArray) t189 _ A2.out (WG.keep HG.out (by repeat (first | (with_reducible first | exact HB.out | apply below_alloc | apply pw_below_drewN | apply below_drew1) | exact HB.out)))).mono ?_); rintro e w65 ⟨rfl, hb⟩; refine ⟨_, rfl, ?_⟩; have n0_ := Aside0.mk (below_step (by repeat (first | (with_reducible first | exact HB.out | apply below_alloc | apply pw_below_drewN | apply below_drew1) | exact HB.out)) hb); clear HB; have HB := n0_; clear n0_; (try clear hb); (try clear hb2); (try clear hk); (try clear hi)))
    go_ret
    exact ⟨by first | rfl | (simp [errW_none, errW_some] <;> rfl) | (simp [*, errW_none, errW_some] <;> rfl), by repeat (first | (with_reducible first | exact HB.out | apply below_alloc | apply pw_below_drewN | apply below_drew1) | exact HB.out)⟩

def portcullislaw08_SkelRests.f (k : Nat) (a0 : ByteArray) : Option (Bool) := if (a0.size : Int) > 600 then ((portcullislaw08_works.f k).bind fun t196 => (some t196)) else ((skel_Skeleton.f k a0).bind fun t197 => ((skel_Skeleton.f k t197).bind fun t198 => (if t198.toList = t197.toList then ((skel_Alike.f k a0 t197).bind fun t199 => (if t199 = true then ((portcullislaw08_works.f k).bind fun t200 => (some t200)) else (some false))) else (some false))))
set_option maxHeartbeats 8000000 in
set_option maxRecDepth 100000 in
theorem portcullislaw08_SkelRests.calls (k : Nat) (a0 : ByteArray) (r : Bool) (w : World) (h : portcullislaw08_SkelRests.f k a0 = some r) (hG : WG w) :
    Calls Tryd.prog 3 #[.string a0] w fun e w' => e = .returned (.bool r) ∧ Below w.heap.size w w' := by
  have HG := Aside0.mk hG
  clear hG
  have HB := Aside0.mk (Below.refl w.heap.size w)
  have H : (if (a0.size : Int) > 600 then ((portcullislaw08_works.f k).bind fun t196 => (some t196)) else ((skel_Skeleton.f k a0).bind fun t197 => ((skel_Skeleton.f k t197).bind fun t198 => (if t198.toList = t197.toList then ((skel_Alike.f k a0 t197).bind fun t199 => (if t199 = true then ((portcullislaw08_works.f k).bind fun t200 => (some t200)) else (some false))) else (some false))))) = some r := h
  clear h
  by_cases c2 : (a0.size : Int) > 600
  · rw [if_pos c2] at H
    have c2b0 : decide (600 < (a0.size : Int)) = true := decide_eq_true c2
    have c2b1 : decide (600 < a0.size) = true := decide_eq_true (by omega)
    clear c2
    replace H := Option.bind_eq_some_iff.mp H
    obtain ⟨t196, A30, H⟩ := H
    replace H : (some t196) = some r := H
    have A3 := Aside0.mk A30
    clear A30
    obtain rfl := Option.some.inj H
    go_enter Tryd.func3, Tryd.ntmps3
    go_wp2_with (first | ((with_reducible refine gate_callee (f := 8) rfl ?_); refine goesL_ (some 7) rfl rfl Tryd.func8 (by kernel_rfl) rfl #[] rfl (by (try simp only [List.map_toArray, List.map_cons, List.map_nil]); first | done | rfl | (simp only [List.length_drop, List.length_take]; rfl)) ?_; (with_reducible refine (portcullislaw08_works.calls k  t196 _ A3.out (WG.keep HG.out (by repeat (first | (with_reducible first | exact HB.out | apply below_alloc | apply pw_below_drewN | apply below_drew1) | exact HB.out)))).mono ?_); rintro e w4 ⟨rfl, hb⟩; refine ⟨_, rfl, ?_⟩; have n0_ := Aside0.mk (below_step (by repeat (first | (with_reducible first | exact HB.out | apply below_alloc | apply pw_below_drewN | apply below_drew1) | exact HB.out)) hb); clear HB; have HB := n0_; clear n0_; (try clear hb); (try clear hb2); (try clear hk); (try clear hi)))
    go_ret
    exact ⟨by first | rfl | (simp [errW_none, errW_some] <;> rfl) | (simp [*, errW_none, errW_some] <;> rfl), by repeat (first | (with_reducible first | exact HB.out | apply below_alloc | apply pw_below_drewN | apply below_drew1) | exact HB.out)⟩
  · rw [if_neg c2] at H
    have c2b0 : decide (600 < (a0.size : Int)) = false := decide_eq_false c2
    have c2b1 : decide (600 < a0.size) = false := decide_eq_false (by omega)
    clear c2
    replace H := Option.bind_eq_some_iff.mp H
    obtain ⟨t197, A50, H⟩ := H
    replace H : ((skel_Skeleton.f k t197).bind fun t198 => (if t198.toList = t197.toList then ((skel_Alike.f k a0 t197).bind fun t199 => (if t199 = true then ((portcullislaw08_works.f k).bind fun t200 => (some t200)) else (some false))) else (some false))) = some r := H
    have A5 := Aside0.mk A50
    clear A50
    replace H := Option.bind_eq_some_iff.mp H
    obtain ⟨t198, A60, H⟩ := H
    replace H : (if t198.toList = t197.toList then ((skel_Alike.f k a0 t197).bind fun t199 => (if t199 = true then ((portcullislaw08_works.f k).bind fun t200 => (some t200)) else (some false))) else (some false)) = some r := H
    have A6 := Aside0.mk A60
    clear A60
    by_cases c7 : t198.toList = t197.toList
    · rw [if_pos c7] at H
      have c7b0 : (t198.toList == t197.toList) = true := beq_iff_eq.mpr c7
      have c7b1 : (t198.toList != t197.toList) = false := bne_eq_false_iff_eq.mpr c7
      clear c7
      replace H := Option.bind_eq_some_iff.mp H
      obtain ⟨t199, A80, H⟩ := H
      replace H : (if t199 = true then ((portcullislaw08_works.f k).bind fun t200 => (some t200)) else (some false)) = some r := H
      have A8 := Aside0.mk A80
      clear A80
      by_cases c9 : t199 = true
      · subst c9
        have H1 : ((portcullislaw08_works.f k).bind fun t200 => (some t200)) = some r := by rw [if_pos rfl] at H; exact H
        clear H
        have H := H1
        clear H1
        replace H := Option.bind_eq_some_iff.mp H
        obtain ⟨t200, A100, H⟩ := H
        replace H : (some t200) = some r := H
        have A10 := Aside0.mk A100
        clear A100
        obtain rfl := Option.some.inj H
        go_enter Tryd.func3, Tryd.ntmps3
        go_wp2_with (first | ((with_reducible refine gate_callee (f := 9) rfl ?_); refine goesL_ (some 9) rfl rfl Tryd.func9 (by kernel_rfl) rfl #[.string a0] rfl (by (try simp only [List.map_toArray, List.map_cons, List.map_nil]); first | done | rfl | (simp only [List.length_drop, List.length_take]; rfl)) ?_; (with_reducible refine (skel_Skeleton.calls k a0 t197 _ A5.out (WG.keep HG.out (by repeat (first | (with_reducible first | exact HB.out | apply below_alloc | apply pw_below_drewN | apply below_drew1) | exact HB.out)))).mono ?_); rintro e w11 ⟨rfl, hb⟩; refine ⟨_, rfl, ?_⟩; have n0_ := Aside0.mk (below_step (by repeat (first | (with_reducible first | exact HB.out | apply below_alloc | apply pw_below_drewN | apply below_drew1) | exact HB.out)) hb); clear HB; have HB := n0_; clear n0_; (try clear hb); (try clear hb2); (try clear hk); (try clear hi)) | ((with_reducible refine gate_callee (f := 9) rfl ?_); refine goesL_ (some 11) rfl rfl Tryd.func9 (by kernel_rfl) rfl #[.string t197] rfl (by (try simp only [List.map_toArray, List.map_cons, List.map_nil]); first | done | rfl | (simp only [List.length_drop, List.length_take]; rfl)) ?_; (with_reducible refine (skel_Skeleton.calls k t197 t198 _ A6.out (WG.keep HG.out (by repeat (first | (with_reducible first | exact HB.out | apply below_alloc | apply pw_below_drewN | apply below_drew1) | exact HB.out)))).mono ?_); rintro e w12 ⟨rfl, hb⟩; refine ⟨_, rfl, ?_⟩; have n0_ := Aside0.mk (below_step (by repeat (first | (with_reducible first | exact HB.out | apply below_alloc | apply pw_below_drewN | apply below_drew1) | exact HB.out)) hb); clear HB; have HB := n0_; clear n0_; (try clear hb); (try clear hb2); (try clear hk); (try clear hi)) | (go_at_call 10; (with_reducible refine (skel_Alike.calls k a0 t197 true _ A8.out (WG.keep HG.out (by repeat (first | (with_reducible first | exact HB.out | apply below_alloc | apply pw_below_drewN | apply below_drew1) | exact HB.out)))).mono ?_); rintro e w13 ⟨rfl, hb⟩; have n0_ := Aside0.mk (below_step (by repeat (first | (with_reducible first | exact HB.out | apply below_alloc | apply pw_below_drewN | apply below_drew1) | exact HB.out)) hb); clear HB; have HB := n0_; clear n0_; (try clear hb); (try clear hb2); (try clear hk); (try clear hi)) | (go_at_call 8; (with_reducible refine (portcullislaw08_works.calls k  t200 _ A10.out (WG.keep HG.out (by repeat (first | (with_reducible first | exact HB.out | apply below_alloc | apply pw_below_drewN | apply below_drew1) | exact HB.out)))).mono ?_); rintro e w14 ⟨rfl, hb⟩; have n0_ := Aside0.mk (below_step (by repeat (first | (with_reducible first | exact HB.out | apply below_alloc | apply pw_below_drewN | apply below_drew1) | exact HB.out)) hb); clear HB; have HB := n0_; clear n0_; (try clear hb); (try clear hb2); (try clear hk); (try clear hi)))
        go_ret
        exact ⟨by first | rfl | (simp [errW_none, errW_some] <;> rfl) | (simp [*, errW_none, errW_some] <;> rfl), by repeat (first | (with_reducible first | exact HB.out | apply below_alloc | apply pw_below_drewN | apply below_drew1) | exact HB.out)⟩
      · replace c9 := Bool.eq_false_iff.mpr c9
        subst c9
        have H1 : (some false) = some r := by rw [if_neg (show ¬ (false = true) by decide)] at H; exact H
        clear H
        have H := H1
        clear H1
        obtain rfl := Option.some.inj H
        go_enter Tryd.func3, Tryd.ntmps3
        go_wp2_with (first | ((with_reducible refine gate_callee (f := 9) rfl ?_); refine goesL_ (some 9) rfl rfl Tryd.func9 (by kernel_rfl) rfl #[.string a0] rfl (by (try simp only [List.map_toArray, List.map_cons, List.map_nil]); first | done | rfl | (simp only [List.length_drop, List.length_take]; rfl)) ?_; (with_reducible refine (skel_Skeleton.calls k a0 t197 _ A5.out (WG.keep HG.out (by repeat (first | (with_reducible first | exact HB.out | apply below_alloc | apply pw_below_drewN | apply below_drew1) | exact HB.out)))).mono ?_); rintro e w15 ⟨rfl, hb⟩; refine ⟨_, rfl, ?_⟩; have n0_ := Aside0.mk (below_step (by repeat (first | (with_reducible first | exact HB.out | apply below_alloc | apply pw_below_drewN | apply below_drew1) | exact HB.out)) hb); clear HB; have HB := n0_; clear n0_; (try clear hb); (try clear hb2); (try clear hk); (try clear hi)) | ((with_reducible refine gate_callee (f := 9) rfl ?_); refine goesL_ (some 11) rfl rfl Tryd.func9 (by kernel_rfl) rfl #[.string t197] rfl (by (try simp only [List.map_toArray, List.map_cons, List.map_nil]); first | done | rfl | (simp only [List.length_drop, List.length_take]; rfl)) ?_; (with_reducible refine (skel_Skeleton.calls k t197 t198 _ A6.out (WG.keep HG.out (by repeat (first | (with_reducible first | exact HB.out | apply below_alloc | apply pw_below_drewN | apply below_drew1) | exact HB.out)))).mono ?_); rintro e w16 ⟨rfl, hb⟩; refine ⟨_, rfl, ?_⟩; have n0_ := Aside0.mk (below_step (by repeat (first | (with_reducible first | exact HB.out | apply below_alloc | apply pw_below_drewN | apply below_drew1) | exact HB.out)) hb); clear HB; have HB := n0_; clear n0_; (try clear hb); (try clear hb2); (try clear hk); (try clear hi)) | (go_at_call 10; (with_reducible refine (skel_Alike.calls k a0 t197 false _ A8.out (WG.keep HG.out (by repeat (first | (with_reducible first | exact HB.out | apply below_alloc | apply pw_below_drewN | apply below_drew1) | exact HB.out)))).mono ?_); rintro e w17 ⟨rfl, hb⟩; have n0_ := Aside0.mk (below_step (by repeat (first | (with_reducible first | exact HB.out | apply below_alloc | apply pw_below_drewN | apply below_drew1) | exact HB.out)) hb); clear HB; have HB := n0_; clear n0_; (try clear hb); (try clear hb2); (try clear hk); (try clear hi)))
        go_ret
        exact ⟨by first | rfl | (simp [errW_none, errW_some] <;> rfl) | (simp [*, errW_none, errW_some] <;> rfl), by repeat (first | (with_reducible first | exact HB.out | apply below_alloc | apply pw_below_drewN | apply below_drew1) | exact HB.out)⟩
    · rw [if_neg c7] at H
      have c7b0 : (t198.toList == t197.toList) = false := beq_eq_false_iff_ne.mpr c7
      have c7b1 : (t198.toList != t197.toList) = true := bne_iff_ne.mpr c7
      obtain rfl := Option.some.inj H
      go_enter Tryd.func3, Tryd.ntmps3
      go_wp2_with (first | ((with_reducible refine gate_callee (f := 9) rfl ?_); refine goesL_ (some 9) rfl rfl Tryd.func9 (by kernel_rfl) rfl #[.string a0] rfl (by (try simp only [List.map_toArray, List.map_cons, List.map_nil]); first | done | rfl | (simp only [List.length_drop, List.length_take]; rfl)) ?_; (with_reducible refine (skel_Skeleton.calls k a0 t197 _ A5.out (WG.keep HG.out (by repeat (first | (with_reducible first | exact HB.out | apply below_alloc | apply pw_below_drewN | apply below_drew1) | exact HB.out)))).mono ?_); rintro e w18 ⟨rfl, hb⟩; refine ⟨_, rfl, ?_⟩; have n0_ := Aside0.mk (below_step (by repeat (first | (with_reducible first | exact HB.out | apply below_alloc | apply pw_below_drewN | apply below_drew1) | exact HB.out)) hb); clear HB; have HB := n0_; clear n0_; (try clear hb); (try clear hb2); (try clear hk); (try clear hi)) | ((with_reducible refine gate_callee (f := 9) rfl ?_); refine goesL_ (some 11) rfl rfl Tryd.func9 (by kernel_rfl) rfl #[.string t197] rfl (by (try simp only [List.map_toArray, List.map_cons, List.map_nil]); first | done | rfl | (simp only [List.length_drop, List.length_take]; rfl)) ?_; (with_reducible refine (skel_Skeleton.calls k t197 t198 _ A6.out (WG.keep HG.out (by repeat (first | (with_reducible first | exact HB.out | apply below_alloc | apply pw_below_drewN | apply below_drew1) | exact HB.out)))).mono ?_); rintro e w19 ⟨rfl, hb⟩; refine ⟨_, rfl, ?_⟩; have n0_ := Aside0.mk (below_step (by repeat (first | (with_reducible first | exact HB.out | apply below_alloc | apply pw_below_drewN | apply below_drew1) | exact HB.out)) hb); clear HB; have HB := n0_; clear n0_; (try clear hb); (try clear hb2); (try clear hk); (try clear hi)))
      go_ret
      exact ⟨by first | rfl | (simp [errW_none, errW_some] <;> rfl) | (simp [*, errW_none, errW_some] <;> rfl), by repeat (first | (with_reducible first | exact HB.out | apply below_alloc | apply pw_below_drewN | apply below_drew1) | exact HB.out)⟩

/-- THE ONE PURE STATEMENT of portcullislaw08_SkelRests: yours. -/
def portcullislaw08_SkelRests.Pure : Prop := ∀ (a0 : ByteArray), a0.size ≤ 140737488351232 → ∃ k, portcullislaw08_SkelRests.f k a0 = some true
theorem portcullislaw08_SkelRests.walk (P : portcullislaw08_SkelRests.Pure) (a0 : ByteArray) (w : World) (w0 : a0.size ≤ 140737488351232) (hG : WG w) :
    Calls Tryd.prog 3 #[.string a0] w fun e w' => e = .returned (.bool true) ∧ Below w.heap.size w w' := by
  have HG := Aside0.mk hG
  have HB := Aside0.mk (Below.refl w.heap.size w)
  clear hG
  obtain ⟨k, h⟩ := P a0 w0
  refine (portcullislaw08_SkelRests.calls k a0 true w h (WG.keep HG.out (by repeat (first | (with_reducible first | exact HB.out | apply below_alloc | apply pw_below_drewN | apply below_drew1) | exact HB.out)))).mono ?_
  rintro e w' ⟨rfl, hd⟩
  exact ⟨rfl, hd⟩

end Go.Proofs.YtncbbgmhmofhnaaDoor.Pr
end

section
namespace Go.Proofs.YtncbbgmhmofhnaaDoor.Pr
open Go.RowKit Go.Proofs.YtncbbgmhmofhnaaDoorW.PrintWords Go.Proofs.YtncbbgmhmofhnaaDoorW.PrintLast Go.Proofs.YtncbbgmhmofhnaaDoorW.PrintMore
set_option linter.unusedVariables false
set_option linter.unusedSimpArgs false

def mkB (l : List UInt8) : ByteArray := ⟨l.toArray⟩
theorem mkB_data (s : ByteArray) : mkB s.data.toList = s := by cases s; simp [mkB]
theorem data_mkB (l : List UInt8) : (mkB l).data.toList = l := by simp [mkB]
theorem mkB_size (l : List UInt8) : (mkB l).size = l.length := by rw [← data_length, data_mkB]
end Go.Proofs.YtncbbgmhmofhnaaDoor.Pr
end

section
namespace Go.Proofs.YtncbbgmhmofhnaaDoor.Pr
set_option linter.unusedVariables false
set_option linter.unusedSimpArgs false

theorem apart_fd : ∀ (k : Nat) (r : Int), Dep k r → ∀ y ∈ apartK k r, decU y = []
  | 0, r, h, y, hy => by obtain rfl : y = r := by simpa [apartK] using hy
                         exact h
  | k + 1, r, h, y, hy => by
    rw [apartK] at hy
    by_cases e : decU r = []
    · rw [if_pos e] at hy
      obtain rfl := List.mem_singleton.1 hy
      exact e
    · rw [if_neg e] at hy
      obtain ⟨x, hx, hxy⟩ := List.mem_flatMap.1 hy
      exact apart_fd k x (h x hx) y hxy
def Fd (l : List Int) : Prop := ∀ y ∈ l, decU y = []
theorem apL_fd (l : List Int) : Fd (apL l) := fun y hy => by
  obtain ⟨x, hx, hxy⟩ := List.mem_flatMap.1 hy
  exact apart_fd 4 x (dep4 x) y hxy
theorem apL_self : ∀ {l : List Int}, Fd l → apL l = l
  | [], _ => rfl
  | x :: l, h => by
    have h1 := apL_self (l := l) (fun y hy => h y (List.mem_cons_of_mem _ hy))
    show apartK 4 x ++ apL l = _
    rw [apartK_nil (h x List.mem_cons_self), h1]
    rfl
theorem ord_fd {l : List Int} (h : Fd l) : Fd (ordM clsU l) := fun y hy => h y ((ordM_perm clsU l).mem_iff.1 hy)
theorem ordM_idem (l : List Int) : ordM clsU (ordM clsU l) = ordM clsU l := by
  refine ordM_srt clsU _ ?_
  unfold ordM
  rw [List.reverse_reverse]
  exact ordR_is_srt clsU clsU_pos l [] trivial
theorem ordM_len (l : List Int) : (ordM clsU l).length = l.length := (ordM_perm clsU l).length_eq

/-- prev: the class of what stood ahead. -/
def OkL : Int → List Int → Prop
  | _, [] => True
  | p, r :: t => (clsU r = 0 ∨ p ≤ clsU r) ∧ OkL (clsU r) t
structure CmpI (seg rest : List Int) (last prev : Int) : Prop where
  fd : Fd (seg ++ rest)
  nz : ∀ y ∈ seg, clsU y ≠ 0
  le : ∀ y ∈ seg, clsU y ≤ last
  lp : last ≤ prev
  ok : OkL prev rest
theorem CmpI.zero {seg t : List Int} {r last prev : Int} (h : CmpI seg (r :: t) last prev) (hz : clsU r = 0) : CmpI [] t 0 0 := by
  have := h.ok.2
  rw [hz] at this
  exact ⟨fun y hy => h.fd y (by simp at hy; simp [hy]), fun y hy => by simp at hy, fun y hy => by simp at hy, Int.le_refl _, this⟩
theorem CmpI.push {seg t : List Int} {r last prev : Int} (h : CmpI seg (r :: t) last prev) (hz : clsU r ≠ 0) : CmpI (seg ++ [r]) t (clsU r) (clsU r) := by
  have h1 : prev ≤ clsU r := h.ok.1.resolve_left hz
  refine ⟨fun y hy => h.fd y (by simpa using hy), fun y hy => ?_, fun y hy => ?_, Int.le_refl _, h.ok.2⟩
  · rcases List.mem_append.1 hy with hy | hy
    · exact h.nz y hy
    · rw [List.mem_singleton.1 hy]; exact hz
  · rcases List.mem_append.1 hy with hy | hy
    · have := h.le y hy; have := h.lp; omega
    · rw [List.mem_singleton.1 hy]; exact Int.le_refl _
theorem CmpI.take {seg t : List Int} {r last prev : Int} (h : CmpI seg (r :: t) last prev) (hz : clsU r ≠ 0) : CmpI seg t last (clsU r) :=
  ⟨fun y hy => h.fd y (by rcases List.mem_append.1 hy with h | h <;> simp [h]), h.nz, h.le, by have := h.ok.1.resolve_left hz; have := h.lp; omega, h.ok.2⟩
/-- A row's normal forms. -/
def nfdU (l : List Int) : List Int := ordM clsU (apL l)
theorem nfd_fd (l : List Int) : Fd (nfdU l) := ord_fd (apL_fd l)
theorem nfd_nfd (l : List Int) : nfdU (nfdU l) = nfdU l := by
  have : nfdU (nfdU l) = ordM clsU (apL (nfdU l)) := rfl
  rw [this, apL_self (nfd_fd l)]
  exact ordM_idem _
theorem nfd_len (l : List Int) : (nfdU l).length ≤ 16 * l.length := by
  have := apL_len l
  unfold nfdU
  rw [ordM_len]; exact this

end Go.Proofs.YtncbbgmhmofhnaaDoor.Pr
end

section
namespace Go.Proofs.YtncbbgmhmofhnaaDoor.Pr
open Go.RowKit Go.Proofs.YtncbbgmhmofhnaaDoorW.PrintWords Go.Proofs.YtncbbgmhmofhnaaDoorW.PrintLast Go.Proofs.YtncbbgmhmofhnaaDoorW.PrintMore
set_option linter.unusedVariables false
set_option linter.unusedSimpArgs false

def Ev {α : Type} (f : Nat → Option α) (r : α) : Prop := ∃ K, ∀ k, K ≤ k → f k = some r
theorem Ev.step {α : Type} {f g : Nat → Option α} {r : α} (h : ∀ k, g (k + 1) = f k) (hf : Ev f r) : Ev g r := by
  obtain ⟨K, hK⟩ := hf
  refine ⟨K + 1, fun k hk => ?_⟩
  obtain ⟨k, rfl⟩ : ∃ k', k = k' + 1 := ⟨k - 1, by omega⟩
  rw [h]
  exact hK k (by omega)
theorem Ev.one {α : Type} {g : Nat → Option α} {r : α} (h : ∀ k, g (k + 1) = some r) : Ev g r := ⟨1, fun k hk => by
  obtain ⟨k, rfl⟩ : ∃ k', k = k' + 1 := ⟨k - 1, by omega⟩
  exact h k⟩
theorem Ev.bind {α β : Type} {f : Nat → Option α} {F : Nat → α → Option β} {a : α} {r : β} (hf : Ev f a) (hF : Ev (fun k => F k a) r) : Ev (fun k => (f k).bind (F k)) r := by
  obtain ⟨K, hK⟩ := hf
  obtain ⟨M, hM⟩ := hF
  refine ⟨K + M, fun k hk => ?_⟩
  show (f k).bind (F k) = _
  rw [hK k (by omega)]
  exact hM k (by omega)
theorem Ev.of_eq {α : Type} {f g : Nat → Option α} {r : α} (h : ∀ k, f k = g k) (hg : Ev g r) : Ev f r := by
  obtain ⟨K, hK⟩ := hg
  exact ⟨K, fun k hk => by rw [h]; exact hK k hk⟩
theorem Ev.ex {α : Type} {f : Nat → Option α} {r : α} (h : Ev f r) : ∃ k, f k = some r := by
  obtain ⟨K, hK⟩ := h
  exact ⟨K, hK K (Nat.le_refl _)⟩
theorem w64n (i : Nat) (h : i ≤ 2147483648) : wrap64 ((i : Int) + 1) = ((i + 1 : Nat) : Int) := by
  rw [IntWalk.wrap64_in _ (by omega)]; omega
theorem rd_app (A B : List Int) (x : Int) : rd (A ++ x :: B) (A.length : Int) = x := by
  simp [rd, List.getD]
end Go.Proofs.YtncbbgmhmofhnaaDoor.Pr
end

section
namespace Go.Proofs.YtncbbgmhmofhnaaDoor.Pr
open Go.RowKit Go.Proofs.YtncbbgmhmofhnaaDoorW.PrintWords Go.Proofs.YtncbbgmhmofhnaaDoorW.PrintLast Go.Proofs.YtncbbgmhmofhnaaDoorW.PrintMore
set_option linter.unusedVariables false
set_option linter.unusedSimpArgs false

theorem nfd_is (l : List Int) (hl : l.length ≤ 60000) : norm_NFD.f l = some (nfdU l) := by unfold norm_NFD.f; rw [if_pos hl]; rfl
end Go.Proofs.YtncbbgmhmofhnaaDoor.Pr
end

section
namespace Go.Proofs.YtncbbgmhmofhnaaDoor.Pr
open Go.RowKit Go.Proofs.YtncbbgmhmofhnaaDoorW.PrintWords Go.Proofs.YtncbbgmhmofhnaaDoorW.PrintLast Go.Proofs.YtncbbgmhmofhnaaDoorW.PrintMore
set_option linter.unusedVariables false
set_option linter.unusedSimpArgs false

theorem Ev.stepG {α : Type} {f g : Nat → Option α} {r : α} (K0 : Nat) (h : ∀ k, K0 ≤ k → g (k + 1) = f k) (hf : Ev f r) : Ev g r := by
  obtain ⟨K, hK⟩ := hf
  refine ⟨K + K0 + 1, fun k hk => ?_⟩
  obtain ⟨k, rfl⟩ : ∃ k', k = k' + 1 := ⟨k - 1, by omega⟩
  rw [h k (by omega)]
  exact hK k (by omega)
end Go.Proofs.YtncbbgmhmofhnaaDoor.Pr
end

section
namespace Go.Proofs.YtncbbgmhmofhnaaDoor.Pr
open Go.RowKit Go.Proofs.YtncbbgmhmofhnaaDoorW.PrintWords Go.Proofs.YtncbbgmhmofhnaaDoorW.PrintLast Go.Proofs.YtncbbgmhmofhnaaDoorW.PrintMore
set_option linter.unusedVariables false
set_option linter.unusedSimpArgs false

def ints (t : List UInt8) : List Int := t.map fun c => (c.toNat : Int)
theorem strOfNums_ints (t : List UInt8) : strOfNums (ints t) = mkB t := by
  unfold strOfNums ints mkB
  rw [List.map_map]
  have e2 : t.map ((fun n : Int => UInt8.ofNat n.toNat) ∘ fun c : UInt8 => (c.toNat : Int)) = t := by
    conv => rhs; rw [← List.map_id t]
    exact List.map_congr_left fun c _ => by simp
  rw [e2]
theorem bt_mkB (s : List UInt8) (i : Nat) (h : i < s.length) : bt (mkB s) (i : Int) = (s[i].toNat : Int) := by
  have hs : (i : Int).toNat < (mkB s).size := by rw [mkB_size]; exact h
  rw [← bt_at (mkB s) (i : Int) hs]
  have e : (mkB s).data.toList[i]? = some ((mkB s)[(i : Int).toNat]'hs) := by
    have := Lib.data_getElem? (mkB s) i (by rw [mkB_size]; exact h)
    exact this
  rw [data_mkB, List.getElem?_eq_getElem h] at e
  rw [← Option.some.inj e]
theorem ext_take (t : List UInt8) (m : Nat) : (mkB t).extract 0 m = mkB (t.take m) := by
  apply ByteArray.ext
  rw [ByteArray.data_extract]
  unfold mkB
  simp
theorem ext_drop (t : List UInt8) (m : Nat) : (mkB t).extract m (mkB t).size = mkB (t.drop m) := by
  apply ByteArray.ext
  rw [ByteArray.data_extract, mkB_size]
  unfold mkB
  simp [List.take_of_length_le]
def v2 (a b : Int) : Int := (a - 192) * 64 + b - 128
def v3 (a b c : Int) : Int := ((a - 224) * 64 + b - 128) * 64 + c - 128
def v4 (a b c d : Int) : Int := (((a - 240) * 64 + b - 128) * 64 + c - 128) * 64 + d - 128
def P2 (a b : Int) : Prop := 194 ≤ a ∧ a ≤ 223 ∧ 128 ≤ b ∧ b ≤ 191
def P3 (a b : Int) : Prop := 224 ≤ a ∧ a ≤ 239 ∧ 128 ≤ b ∧ b ≤ 191 ∧ (a = 224 → 160 ≤ b) ∧ (a = 237 → b ≤ 159)
def P4 (a b : Int) : Prop := 240 ≤ a ∧ a ≤ 244 ∧ 128 ≤ b ∧ b ≤ 191 ∧ (a = 240 → 144 ≤ b) ∧ (a = 244 → b ≤ 143)
def C8 (c : Int) : Prop := 128 ≤ c ∧ c ≤ 191
instance (a b : Int) : Decidable (P2 a b) := by unfold P2; infer_instance
instance (a b : Int) : Decidable (P3 a b) := by unfold P3; infer_instance
instance (a b : Int) : Decidable (P4 a b) := by unfold P4; infer_instance
instance (c : Int) : Decidable (C8 c) := by unfold C8; infer_instance
abbrev ub (a : UInt8) : Int := (a.toNat : Int)
theorem ub_rng (a : UInt8) : 0 ≤ ub a ∧ ub a ≤ 255 := by
  have := a.toNat_lt
  unfold ub
  omega
def nxL : List UInt8 → Int × Int × Bool
  | [] => (0, 0, false)
  | [a] => if ub a < 128 then (ub a, 1, true) else (65533, 1, false)
  | [a, b] => if ub a < 128 then (ub a, 1, true) else if P2 (ub a) (ub b) then (v2 (ub a) (ub b), 2, true) else if P3 (ub a) (ub b) ∨ P4 (ub a) (ub b) then (65533, 2, false) else (65533, 1, false)
  | [a, b, c] => if ub a < 128 then (ub a, 1, true) else if P2 (ub a) (ub b) then (v2 (ub a) (ub b), 2, true)
      else if P3 (ub a) (ub b) then (if C8 (ub c) then (v3 (ub a) (ub b) (ub c), 3, true) else (65533, 2, false))
      else if P4 (ub a) (ub b) then (if C8 (ub c) then (65533, 3, false) else (65533, 2, false)) else (65533, 1, false)
  | a :: b :: c :: d :: _ => if ub a < 128 then (ub a, 1, true) else if P2 (ub a) (ub b) then (v2 (ub a) (ub b), 2, true)
      else if P3 (ub a) (ub b) then (if C8 (ub c) then (v3 (ub a) (ub b) (ub c), 3, true) else (65533, 2, false))
      else if P4 (ub a) (ub b) then (if C8 (ub c) then (if C8 (ub d) then (v4 (ub a) (ub b) (ub c) (ub d), 4, true) else (65533, 3, false)) else (65533, 2, false)) else (65533, 1, false)

def Scal (c : Int) : Prop := 0 ≤ c ∧ c ≤ 1114111 ∧ (c < 55296 ∨ 57343 < c)
instance (c : Int) : Decidable (Scal c) := by unfold Scal; infer_instance
theorem w32 (n : Int) (h : -2147483648 ≤ n ∧ n ≤ 2147483647) : wrap32 n = n := IntWalk.wrap32_in n h
def valL : List UInt8 → Int
  | [a] => ub a
  | [a, b] => v2 (ub a) (ub b)
  | [a, b, c] => v3 (ub a) (ub b) (ub c)
  | [a, b, c, d] => v4 (ub a) (ub b) (ub c) (ub d)
  | _ => 0
def Whole (t : List UInt8) : Prop := Scal (valL t) ∧ Lib.encodeRuneZ (valL t) = ints t
instance (t : List UInt8) : Decidable (Whole t) := by unfold Whole; infer_instance
theorem encZ_cases {c : Int} (h : Scal c) : (c ≤ 127 ∧ Lib.encodeRuneZ c = [c]) ∨ (128 ≤ c ∧ c ≤ 2047 ∧ Lib.encodeRuneZ c = [192 + c / 64, 128 + c % 64]) ∨
    (2048 ≤ c ∧ c ≤ 65535 ∧ Lib.encodeRuneZ c = [224 + c / 4096, 128 + c / 64 % 64, 128 + c % 64]) ∨ (65536 ≤ c ∧ Lib.encodeRuneZ c = [240 + c / 262144, 128 + c / 4096 % 64, 128 + c / 64 % 64, 128 + c % 64]) := by
  unfold Scal at h
  by_cases h1 : c ≤ 127
  · exact .inl ⟨h1, Lib.encodeRuneZ_one h.1 h1⟩
  · by_cases h2 : c ≤ 2047
    · exact .inr (.inl ⟨by omega, h2, Lib.encodeRuneZ_two (by omega) h2⟩)
    · by_cases h3 : c ≤ 65535
      · exact .inr (.inr (.inl ⟨by omega, h3, Lib.encodeRuneZ_three (by omega)⟩))
      · exact .inr (.inr (.inr ⟨by omega, Lib.encodeRuneZ_four (by omega) h.2.1⟩))
theorem bt0 (a : UInt8) (r : List UInt8) : bt (mkB (a :: r)) 0 = ub a := bt_mkB (a :: r) 0 (by simp)
theorem bt1 (a b : UInt8) (r : List UInt8) : bt (mkB (a :: b :: r)) 1 = ub b := bt_mkB (a :: b :: r) 1 (by simp)
theorem bt2 (a b c : UInt8) (r : List UInt8) : bt (mkB (a :: b :: c :: r)) 2 = ub c := bt_mkB (a :: b :: c :: r) 2 (by simp)
theorem bt3 (a b c d : UInt8) (r : List UInt8) : bt (mkB (a :: b :: c :: d :: r)) 3 = ub d := bt_mkB (a :: b :: c :: d :: r) 3 (by simp)
theorem nx1 (a : UInt8) : nxL [a] = if ub a < 128 then (ub a, 1, true) else (65533, 1, false) := rfl
theorem nx2 (a b : UInt8) : nxL [a, b] = if ub a < 128 then (ub a, 1, true) else if P2 (ub a) (ub b) then (v2 (ub a) (ub b), 2, true) else if P3 (ub a) (ub b) ∨ P4 (ub a) (ub b) then (65533, 2, false) else (65533, 1, false) := rfl
theorem nx3 (a b c : UInt8) : nxL [a, b, c] = if ub a < 128 then (ub a, 1, true) else if P2 (ub a) (ub b) then (v2 (ub a) (ub b), 2, true)
      else if P3 (ub a) (ub b) then (if C8 (ub c) then (v3 (ub a) (ub b) (ub c), 3, true) else (65533, 2, false))
      else if P4 (ub a) (ub b) then (if C8 (ub c) then (65533, 3, false) else (65533, 2, false)) else (65533, 1, false) := rfl
theorem nx4 (a b c d : UInt8) (r : List UInt8) : nxL (a :: b :: c :: d :: r) = if ub a < 128 then (ub a, 1, true) else if P2 (ub a) (ub b) then (v2 (ub a) (ub b), 2, true)
      else if P3 (ub a) (ub b) then (if C8 (ub c) then (v3 (ub a) (ub b) (ub c), 3, true) else (65533, 2, false))
      else if P4 (ub a) (ub b) then (if C8 (ub c) then (if C8 (ub d) then (v4 (ub a) (ub b) (ub c) (ub d), 4, true) else (65533, 3, false)) else (65533, 2, false)) else (65533, 1, false) := rfl
theorem room_is (k : Nat) (a : Int) (h : 0 ≤ a) (h2 : a ≤ 255) : utf_room.f (k + 5) a = some (if a < 128 then (0, 0, 1) else if 194 ≤ a ∧ a ≤ 223 then (128, 191, 2) else if 224 ≤ a ∧ a ≤ 239 then ((if a = 224 then 160 else 128), (if a = 237 then 159 else 191), 3)
    else if 240 ≤ a ∧ a ≤ 244 then ((if a = 240 then 144 else 128), (if a = 244 then 143 else 191), 4) else (0, 0, 0)) := by
  unfold utf_room.f
  simp only [utf_room.j0, utf_room.j1, utf_room.j2, decide_eq_true_eq, Bool.false_eq_true, if_false]
  rcases (by omega : a < 128 ∨ (128 ≤ a ∧ a < 194) ∨ (194 ≤ a ∧ a ≤ 223) ∨ a = 224 ∨ (225 ≤ a ∧ a ≤ 236) ∨ a = 237 ∨ (238 ≤ a ∧ a ≤ 239) ∨ a = 240 ∨ (241 ≤ a ∧ a ≤ 243) ∨ a = 244 ∨ 244 < a) with r | r | r | r | r | r | r | r | r | r | r
  all_goals (repeat (first | rw [if_pos (by omega)] | rw [if_neg (by omega)]))
theorem un (k : Nat) (t : List UInt8) (lo hi all : Int) (i : Nat) (h1 : 1 ≤ i) (hl : i ≤ t.length) (hs : t.length ≤ 1000000000) :
    utf_Next.l0 (k + 1) (mkB t) lo hi all (i : Int) = if (i : Int) < all ∧ i < t.length ∧ lo ≤ bt (mkB t) (i : Int) ∧ bt (mkB t) (i : Int) ≤ hi then utf_Next.l0 k (mkB t) 128 191 all ((i + 1 : Nat) : Int)
      else if (i : Int) = all then some (((Lib.decodeGo (mkB (t.take i))).1 : Int), (i : Int), true) else some (65533, (i : Int), false) := by
  have hsz : ((mkB t).size : Int) = (t.length : Int) := by rw [mkB_size]
  rw [utf_Next.l0, hsz]
  have e : ∀ x : Int, x = (i : Int) → ((utf8_DecodeRuneInString.f ((mkB t).extract 0 (i : Int).toNat)).bind fun bt506 => (some (bt506.1, x, true))) = some (((Lib.decodeGo (mkB (t.take i))).1 : Int), (i : Int), true) := by
    rintro x rfl
    rw [Int.toNat_natCast, ext_take]
    rfl
  rw [e _ rfl, w64n i (by omega)]
  generalize bt (mkB t) (i : Int) = b
  by_cases c1 : (i : Int) < all
  · have hne : ¬ (i : Int) = all := by omega
    rw [if_pos c1]
    by_cases c2 : i < t.length
    · rw [if_pos (show (i : Int) < (t.length : Int) by omega), if_pos (show (0 : Int) ≤ (i : Int) by omega)]
      by_cases c3 : b ≥ lo
      · rw [if_pos c3]
        by_cases c4 : b ≤ hi
        · rw [if_pos c4, if_pos (show (i : Int) < all ∧ i < t.length ∧ lo ≤ b ∧ b ≤ hi from ⟨c1, c2, c3, c4⟩)]
        · rw [if_neg c4, if_neg (show ¬ ((i : Int) < all ∧ i < t.length ∧ lo ≤ b ∧ b ≤ hi) from fun h => c4 h.2.2.2), if_neg hne, if_neg hne]
      · rw [if_neg c3, if_neg (show ¬ ((i : Int) < all ∧ i < t.length ∧ lo ≤ b ∧ b ≤ hi) from fun h => c3 h.2.2.1), if_neg hne, if_neg hne]
    · rw [if_neg (show ¬ (i : Int) < (t.length : Int) by omega), if_neg (show ¬ ((i : Int) < all ∧ i < t.length ∧ lo ≤ b ∧ b ≤ hi) from fun h => c2 h.2.1), if_neg hne, if_neg hne]
  · rw [if_neg c1, if_neg (show ¬ ((i : Int) < all ∧ i < t.length ∧ lo ≤ b ∧ b ≤ hi) from fun h => c1 h.1)]
    by_cases c5 : (i : Int) = all
    · rw [if_pos c5, if_pos (show (0 : Int) ≤ (i : Int) by omega), if_pos (show (i : Int) ≤ (t.length : Int) by omega), if_pos c5]
    · rw [if_neg c5, if_neg c5]
theorem g0 (a : UInt8) (r : List UInt8) : (mkB (a :: r)).get! 0 = a := by unfold mkB ByteArray.get!; rfl
theorem g1 (a b : UInt8) (r : List UInt8) : (mkB (a :: b :: r)).get! 1 = b := by unfold mkB ByteArray.get!; rfl
theorem g2 (a b c : UInt8) (r : List UInt8) : (mkB (a :: b :: c :: r)).get! 2 = c := by unfold mkB ByteArray.get!; rfl
theorem g3 (a b c d : UInt8) (r : List UInt8) : (mkB (a :: b :: c :: d :: r)).get! 3 = d := by unfold mkB ByteArray.get!; rfl
theorem dec1 (a : UInt8) (h : ub a < 128) : ((Lib.decodeGo (mkB [a])).1 : Int) = ub a := by
  unfold Lib.decodeGo
  rw [if_neg (by rw [mkB_size]; simp), Lib.decode_at, mkB_size, Nat.zero_add, Nat.zero_add, Nat.zero_add, g0]
  unfold Lib.decodeN
  unfold ub at h
  rw [if_pos (by omega)]
theorem dec2 (a b : UInt8) (h : P2 (ub a) (ub b)) : ((Lib.decodeGo (mkB [a, b])).1 : Int) = v2 (ub a) (ub b) := by
  unfold Lib.decodeGo
  rw [if_neg (by rw [mkB_size]; simp), Lib.decode_at, mkB_size, Nat.zero_add, Nat.zero_add, Nat.zero_add, g0, g1]
  unfold Lib.decodeN
  unfold P2 ub at h
  unfold v2 ub
  show ((if _ then _ else _ : Nat × Nat).1 : Int) = _
  rw [if_neg (by omega), if_pos (by simp only [List.length_cons, List.length_nil]; omega), if_pos (by omega)]
  show (((a.toNat % 32 * 64 + b.toNat % 64 : Nat)) : Int) = _
  omega
theorem dec3 (a b c : UInt8) (h : P3 (ub a) (ub b)) (h8 : C8 (ub c)) : ((Lib.decodeGo (mkB [a, b, c])).1 : Int) = v3 (ub a) (ub b) (ub c) := by
  unfold Lib.decodeGo
  rw [if_neg (by rw [mkB_size]; simp), Lib.decode_at, mkB_size, Nat.zero_add, Nat.zero_add, Nat.zero_add, g0, g1, g2]
  unfold Lib.decodeN
  unfold P3 ub at h
  unfold C8 ub at h8
  unfold v3 ub
  rw [if_neg (by omega), if_neg (by omega), if_pos (by simp only [List.length_cons, List.length_nil]; omega), if_pos (by omega)]
  show (((a.toNat % 16 * 4096 + b.toNat % 64 * 64 + c.toNat % 64 : Nat)) : Int) = _
  omega
theorem dec4 (a b c d : UInt8) (h : P4 (ub a) (ub b)) (h8 : C8 (ub c)) (d8 : C8 (ub d)) : ((Lib.decodeGo (mkB [a, b, c, d])).1 : Int) = v4 (ub a) (ub b) (ub c) (ub d) := by
  unfold Lib.decodeGo
  rw [if_neg (by rw [mkB_size]; simp), Lib.decode_at, mkB_size, Nat.zero_add, Nat.zero_add, Nat.zero_add, g0, g1, g2, g3]
  unfold Lib.decodeN
  unfold P4 ub at h
  unfold C8 ub at h8 d8
  unfold v4 ub
  rw [if_neg (by omega), if_neg (by omega), if_neg (by omega), if_pos (by simp only [List.length_cons, List.length_nil]; omega), if_pos (by omega)]
  show (((a.toNat % 8 * 262144 + b.toNat % 64 * 4096 + c.toNat % 64 * 64 + d.toNat % 64 : Nat)) : Int) = _
  omega
theorem u1 (t : List UInt8) (lo hi all : Int) (h : 1 ≤ t.length) (hs : t.length ≤ 1000000000) : utf_Next.l0 20 (mkB t) lo hi all 1 = if (1 : Int) < all ∧ 1 < t.length ∧ lo ≤ bt (mkB t) 1 ∧ bt (mkB t) 1 ≤ hi then utf_Next.l0 19 (mkB t) 128 191 all 2
      else if (1 : Int) = all then some (((Lib.decodeGo (mkB (t.take 1))).1 : Int), 1, true) else some (65533, 1, false) := un 19 t lo hi all 1 (by omega) h hs
theorem u2 (t : List UInt8) (lo hi all : Int) (h : 2 ≤ t.length) (hs : t.length ≤ 1000000000) : utf_Next.l0 19 (mkB t) lo hi all 2 = if (2 : Int) < all ∧ 2 < t.length ∧ lo ≤ bt (mkB t) 2 ∧ bt (mkB t) 2 ≤ hi then utf_Next.l0 18 (mkB t) 128 191 all 3
      else if (2 : Int) = all then some (((Lib.decodeGo (mkB (t.take 2))).1 : Int), 2, true) else some (65533, 2, false) := un 18 t lo hi all 2 (by omega) h hs
theorem u3 (t : List UInt8) (lo hi all : Int) (h : 3 ≤ t.length) (hs : t.length ≤ 1000000000) : utf_Next.l0 18 (mkB t) lo hi all 3 = if (3 : Int) < all ∧ 3 < t.length ∧ lo ≤ bt (mkB t) 3 ∧ bt (mkB t) 3 ≤ hi then utf_Next.l0 17 (mkB t) 128 191 all 4
      else if (3 : Int) = all then some (((Lib.decodeGo (mkB (t.take 3))).1 : Int), 3, true) else some (65533, 3, false) := un 17 t lo hi all 3 (by omega) h hs
theorem u4 (t : List UInt8) (lo hi : Int) (h : 4 ≤ t.length) (hs : t.length ≤ 1000000000) : utf_Next.l0 17 (mkB t) lo hi 4 4 = some (((Lib.decodeGo (mkB (t.take 4))).1 : Int), 4, true) := by
  have := un 16 t lo hi 4 4 (by omega) h hs
  rw [if_neg (fun h => by have := h.1; omega)] at this
  exact this
theorem u_bad {a : UInt8} {r : List UInt8} (hs : (a :: r).length ≤ 1000000000) (lo hi all : Int) (h1 : 1 < all) (e : nxL (a :: r) = (65533, 1, false)) (h : ¬ (1 < (a :: r).length ∧ lo ≤ bt (mkB (a :: r)) 1 ∧ bt (mkB (a :: r)) 1 ≤ hi)) :
    utf_Next.l0 20 (mkB (a :: r)) lo hi all 1 = some (nxL (a :: r)) := by
  rw [u1 _ _ _ _ (by simp) hs, if_neg (fun h2 => h h2.2), if_neg (by omega), e]
theorem utfNext_is (t : List UInt8) (hs : t.length ≤ 1000000000) : utf_Next.f 20 (mkB t) = some (nxL t) := by
  have hnil : (mkB t).toList = ([] : List UInt8) ↔ t = [] := by rw [Lib.toList_data, data_mkB]
  have HS := Aside0.mk hs
  clear hs
  unfold utf_Next.f
  cases t with
  | nil => rw [if_pos (hnil.2 rfl)]; rfl
  | cons a r =>
    have hsz : ((mkB (a :: r)).size : Int) = (r.length : Int) + 1 := by rw [mkB_size]; rfl
    have ha := ub_rng a
    have hl1 : 1 ≤ (a :: r).length := by simp
    rw [if_neg (fun h => by cases hnil.1 h), hsz, if_pos (by omega), bt0, room_is 15 _ ha.1 ha.2, Option.bind_some]
    by_cases c0 : ub a < 128
    · have e : nxL (a :: r) = (ub a, 1, true) := by
        match r with
        | [] => rw [nx1, if_pos c0]
        | [b] => rw [nx2, if_pos c0]
        | [b, c] => rw [nx3, if_pos c0]
        | b :: c :: d :: r => rw [nx4, if_pos c0]
      rw [if_pos c0, e]
      dsimp only
      rw [u1 _ _ _ _ hl1 HS.out, if_neg (fun h => by have := h.1; omega), if_pos rfl]
      show some (((Lib.decodeGo (mkB [a])).1 : Int), (1 : Int), true) = _
      rw [dec1 a c0]
    · rw [if_neg c0]
      by_cases r2 : 194 ≤ ub a ∧ ub a ≤ 223
      · rw [if_pos r2]
        dsimp only
        have n3 : ∀ b, ¬ P3 (ub a) b := fun b h => by unfold P3 at h; omega
        have n4 : ∀ b, ¬ P4 (ub a) b := fun b h => by unfold P4 at h; omega
        match r with
        | [] => exact u_bad HS.out _ _ _ (by omega) (by rw [nx1, if_neg c0]) (fun h => by simp at h)
        | b :: r =>
          by_cases c2 : P2 (ub a) (ub b)
          · have e : nxL (a :: b :: r) = (v2 (ub a) (ub b), 2, true) := by
              match r with
              | [] => rw [nx2, if_neg c0, if_pos c2]
              | [c] => rw [nx3, if_neg c0, if_pos c2]
              | c :: d :: r => rw [nx4, if_neg c0, if_pos c2]
            rw [e, u1 _ _ _ _ hl1 HS.out, if_pos ⟨by omega, by simp, by rw [bt1]; exact c2.2.2.1, by rw [bt1]; exact c2.2.2.2⟩, u2 _ _ _ _ (by simp) HS.out, if_neg (fun h => by have := h.1; omega), if_pos rfl]
            show some (((Lib.decodeGo (mkB [a, b])).1 : Int), (2 : Int), true) = _
            rw [dec2 a b c2]
          · refine u_bad HS.out _ _ _ (by omega) ?_ (fun h => c2 ⟨r2.1, r2.2, by have := h.2.1; rw [bt1] at this; exact this, by have := h.2.2; rw [bt1] at this; exact this⟩)
            match r with
            | [] => rw [nx2, if_neg c0, if_neg c2, if_neg (fun h => h.elim (n3 _) (n4 _))]
            | [c] => rw [nx3, if_neg c0, if_neg c2, if_neg (n3 _), if_neg (n4 _)]
            | c :: d :: r => rw [nx4, if_neg c0, if_neg c2, if_neg (n3 _), if_neg (n4 _)]
      · rw [if_neg r2]
        have n2 : ∀ b, ¬ P2 (ub a) b := fun b h => r2 ⟨h.1, h.2.1⟩
        by_cases r3 : 224 ≤ ub a ∧ ub a ≤ 239
        · rw [if_pos r3]
          dsimp only
          have n4 : ∀ b, ¬ P4 (ub a) b := fun b h => by unfold P4 at h; omega
          have hp : ∀ b : Int, P3 (ub a) b ↔ (if ub a = 224 then (160 : Int) else 128) ≤ b ∧ b ≤ (if ub a = 237 then (159 : Int) else 191) := fun b => by
            unfold P3
            split <;> split <;> omega
          match r with
          | [] => exact u_bad HS.out _ _ _ (by omega) (by rw [nx1, if_neg c0]) (fun h => by simp at h)
          | b :: r =>
            by_cases c3 : P3 (ub a) (ub b)
            · have hb := (hp _).1 c3
              rw [u1 _ _ _ _ hl1 HS.out, if_pos ⟨by omega, by simp, by rw [bt1]; exact hb.1, by rw [bt1]; exact hb.2⟩]
              match r with
              | [] =>
                rw [u2 _ _ _ _ (by simp) HS.out, if_neg (fun h => by have := h.2.1; simp at this), if_neg (by omega), nx2, if_neg c0, if_neg (n2 _), if_pos (.inl c3)]
              | c :: r =>
                by_cases c8 : C8 (ub c)
                · have e : nxL (a :: b :: c :: r) = (v3 (ub a) (ub b) (ub c), 3, true) := by
                    match r with
                    | [] => rw [nx3, if_neg c0, if_neg (n2 _), if_pos c3, if_pos c8]
                    | d :: r => rw [nx4, if_neg c0, if_neg (n2 _), if_pos c3, if_pos c8]
                  rw [e, u2 _ _ _ _ (by simp) HS.out, if_pos ⟨by omega, by simp, by rw [bt2]; exact c8.1, by rw [bt2]; exact c8.2⟩, u3 _ _ _ _ (by simp) HS.out, if_neg (fun h => by have := h.1; omega), if_pos rfl]
                  show some (((Lib.decodeGo (mkB [a, b, c])).1 : Int), (3 : Int), true) = _
                  rw [dec3 a b c c3 c8]
                · have e : nxL (a :: b :: c :: r) = (65533, 2, false) := by
                    match r with
                    | [] => rw [nx3, if_neg c0, if_neg (n2 _), if_pos c3, if_neg c8]
                    | d :: r => rw [nx4, if_neg c0, if_neg (n2 _), if_pos c3, if_neg c8]
                  rw [e, u2 _ _ _ _ (by simp) HS.out, if_neg (fun h => c8 ⟨by have := h.2.2.1; rw [bt2] at this; exact this, by have := h.2.2.2; rw [bt2] at this; exact this⟩), if_neg (by omega)]
            · refine u_bad HS.out _ _ _ (by omega) ?_ (fun h => c3 ((hp _).2 ⟨by have := h.2.1; rw [bt1] at this; exact this, by have := h.2.2; rw [bt1] at this; exact this⟩))
              match r with
              | [] => rw [nx2, if_neg c0, if_neg (n2 _), if_neg (fun h => h.elim c3 (n4 _))]
              | [c] => rw [nx3, if_neg c0, if_neg (n2 _), if_neg c3, if_neg (n4 _)]
              | c :: d :: r => rw [nx4, if_neg c0, if_neg (n2 _), if_neg c3, if_neg (n4 _)]
        · rw [if_neg r3]
          have n3 : ∀ b, ¬ P3 (ub a) b := fun b h => r3 ⟨h.1, h.2.1⟩
          by_cases r4 : 240 ≤ ub a ∧ ub a ≤ 244
          · rw [if_pos r4]
            dsimp only
            have hp : ∀ b : Int, P4 (ub a) b ↔ (if ub a = 240 then (144 : Int) else 128) ≤ b ∧ b ≤ (if ub a = 244 then (143 : Int) else 191) := fun b => by
              unfold P4
              split <;> split <;> omega
            match r with
            | [] => exact u_bad HS.out _ _ _ (by omega) (by rw [nx1, if_neg c0]) (fun h => by simp at h)
            | b :: r =>
              by_cases c4 : P4 (ub a) (ub b)
              · have hb := (hp _).1 c4
                rw [u1 _ _ _ _ hl1 HS.out, if_pos ⟨by omega, by simp, by rw [bt1]; exact hb.1, by rw [bt1]; exact hb.2⟩]
                match r with
                | [] =>
                  rw [u2 _ _ _ _ (by simp) HS.out, if_neg (fun h => by have := h.2.1; simp at this), if_neg (by omega), nx2, if_neg c0, if_neg (n2 _), if_pos (.inr c4)]
                | c :: r =>
                  by_cases c8 : C8 (ub c)
                  · rw [u2 _ _ _ _ (by simp) HS.out, if_pos ⟨by omega, by simp, by rw [bt2]; exact c8.1, by rw [bt2]; exact c8.2⟩]
                    match r with
                    | [] => rw [u3 _ _ _ _ (by simp) HS.out, if_neg (fun h => by have := h.2.1; simp at this), if_neg (by omega), nx3, if_neg c0, if_neg (n2 _), if_neg (n3 _), if_pos c4, if_pos c8]
                    | d :: r =>
                      by_cases d8 : C8 (ub d)
                      · rw [u3 _ _ _ _ (by simp) HS.out, if_pos ⟨by omega, by simp, by rw [bt3]; exact d8.1, by rw [bt3]; exact d8.2⟩, u4 _ _ _ (by simp) HS.out, nx4, if_neg c0, if_neg (n2 _), if_neg (n3 _), if_pos c4, if_pos c8, if_pos d8]
                        show some (((Lib.decodeGo (mkB [a, b, c, d])).1 : Int), (4 : Int), true) = _
                        rw [dec4 a b c d c4 c8 d8]
                      · rw [u3 _ _ _ _ (by simp) HS.out, if_neg (fun h => d8 ⟨by have := h.2.2.1; rw [bt3] at this; exact this, by have := h.2.2.2; rw [bt3] at this; exact this⟩), if_neg (by omega), nx4, if_neg c0, if_neg (n2 _), if_neg (n3 _), if_pos c4, if_pos c8, if_neg d8]
                  · have e : nxL (a :: b :: c :: r) = (65533, 2, false) := by
                      match r with
                      | [] => rw [nx3, if_neg c0, if_neg (n2 _), if_neg (n3 _), if_pos c4, if_neg c8]
                      | d :: r => rw [nx4, if_neg c0, if_neg (n2 _), if_neg (n3 _), if_pos c4, if_neg c8]
                    rw [e, u2 _ _ _ _ (by simp) HS.out, if_neg (fun h => c8 ⟨by have := h.2.2.1; rw [bt2] at this; exact this, by have := h.2.2.2; rw [bt2] at this; exact this⟩), if_neg (by omega)]
              · refine u_bad HS.out _ _ _ (by omega) ?_ (fun h => c4 ((hp _).2 ⟨by have := h.2.1; rw [bt1] at this; exact this, by have := h.2.2; rw [bt1] at this; exact this⟩))
                match r with
                | [] => rw [nx2, if_neg c0, if_neg (n2 _), if_neg (fun h => h.elim (n3 _) c4)]
                | [c] => rw [nx3, if_neg c0, if_neg (n2 _), if_neg (n3 _), if_neg c4]
                | c :: d :: r => rw [nx4, if_neg c0, if_neg (n2 _), if_neg (n3 _), if_neg c4]
          · rw [if_neg r4]
            dsimp only
            have n4 : ∀ b, ¬ P4 (ub a) b := fun b h => r4 ⟨h.1, h.2.1⟩
            have e : nxL (a :: r) = (65533, 1, false) := by
              match r with
              | [] => rw [nx1, if_neg c0]
              | [b] => rw [nx2, if_neg c0, if_neg (n2 _), if_neg (fun h => h.elim (n3 _) (n4 _))]
              | [b, c] => rw [nx3, if_neg c0, if_neg (n2 _), if_neg (n3 _), if_neg (n4 _)]
              | b :: c :: d :: r => rw [nx4, if_neg c0, if_neg (n2 _), if_neg (n3 _), if_neg (n4 _)]
            rw [e, u1 _ _ _ _ hl1 HS.out, if_neg (fun h => by have := h.1; omega), if_neg (by omega)]

theorem nx_len {t : List UInt8} (h : t ≠ []) : 1 ≤ (nxL t).2.1 ∧ (nxL t).2.1 ≤ (t.length : Int) := by
  match t, h with
  | [a], _ => rw [nx1]; split <;> simp
  | [a, b], _ => rw [nx2]; repeat' split
                 all_goals simp
  | [a, b, c], _ => rw [nx3]; repeat' split
                    all_goals simp
  | a :: b :: c :: d :: r, _ => rw [nx4]; repeat' split
                                all_goals simp
                                all_goals omega
def decL : Nat → List UInt8 → List Int
  | 0, _ => []
  | f + 1, t => if t = [] then [] else (nxL t).1 :: decL f (t.drop (nxL t).2.1.toNat)
theorem decL_len : ∀ (f : Nat) (t : List UInt8), (decL f t).length ≤ f
  | 0, _ => Nat.zero_le _
  | f + 1, t => by
    rw [decL]
    split
    · simp
    · have := decL_len f (t.drop (nxL t).2.1.toNat)
      simp only [List.length_cons]
      omega
theorem allO_dec : ∀ (f : Nat) (t : List UInt8), t.length ≤ f → t.length ≤ 1000000000 → ∃ xs, allO f (mkB t) = some xs ∧ xs.map Prod.fst = decL f t
  | 0, t, h, hs => by
    have e : t = [] := List.length_eq_zero_iff.1 (by omega)
    subst e
    exact ⟨[], allO_nil 0 rfl, rfl⟩
  | f + 1, t, h, hs => by
    by_cases e : t = []
    · subst e
      exact ⟨[], allO_nil _ rfl, by rw [decL, if_pos rfl]; rfl⟩
    · have hl := nx_len e
      have hne := List.length_pos_iff.2 e
      obtain ⟨xs, h1, h2⟩ := allO_dec f (t.drop (nxL t).2.1.toNat) (by rw [List.length_drop]; omega) (by rw [List.length_drop]; omega)
      refine ⟨((nxL t).1, (nxL t).2.2) :: xs, ?_, ?_⟩
      · rw [allO, if_neg (by rw [mkB_size]; omega), utfNext_is t hs, Option.bind_some, if_pos (by rw [mkB_size]; omega), ext_drop, h1]
        rfl
      · rw [decL, if_neg e, ← h2]
        rfl
theorem utfDecode_is (t : List UInt8) (hs : t.length ≤ 1000000000) : utf_Decode.f (mkB t) = some (decL t.length t) := by
  obtain ⟨xs, h1, h2⟩ := allO_dec t.length t (Nat.le_refl _) hs
  unfold utf_Decode.f
  rw [if_pos (by rw [mkB_size]; exact hs), mkB_size, h1]
  show some (xs.map Prod.fst) = _
  rw [h2]
theorem valid_is (x : Int) : Lib.validRune x = decide (Scal x) := by
  unfold Lib.validRune
  rw [decide_eq_decide]
  unfold Scal
  omega
end Go.Proofs.YtncbbgmhmofhnaaDoor.Pr
end

section
namespace Go.Proofs.YtncbbgmhmofhnaaDoor.Pr
open Go.RowKit Go.Proofs.YtncbbgmhmofhnaaDoorW.PrintWords Go.Proofs.YtncbbgmhmofhnaaDoorW.PrintLast Go.Proofs.YtncbbgmhmofhnaaDoorW.PrintMore
set_option linter.unusedVariables false
set_option linter.unusedSimpArgs false

theorem nxA (a : UInt8) (r : List UInt8) (c0 : ub a < 128) : nxL (a :: r) = (ub a, 1, true) := by
  match r with
  | [] => rw [nx1, if_pos c0]
  | [b] => rw [nx2, if_pos c0]
  | [b, c] => rw [nx3, if_pos c0]
  | b :: c :: d :: r => rw [nx4, if_pos c0]
theorem nxB (a b : UInt8) (r : List UInt8) (c2 : P2 (ub a) (ub b)) : nxL (a :: b :: r) = (v2 (ub a) (ub b), 2, true) := by
  have c0 : ¬ ub a < 128 := by unfold P2 at c2; omega
  match r with
  | [] => rw [nx2, if_neg c0, if_pos c2]
  | [c] => rw [nx3, if_neg c0, if_pos c2]
  | c :: d :: r => rw [nx4, if_neg c0, if_pos c2]
theorem nxC (a b c : UInt8) (r : List UInt8) (c3 : P3 (ub a) (ub b)) (c8 : C8 (ub c)) : nxL (a :: b :: c :: r) = (v3 (ub a) (ub b) (ub c), 3, true) := by
  have c0 : ¬ ub a < 128 := by unfold P3 at c3; omega
  have c2 : ¬ P2 (ub a) (ub b) := by unfold P3 at c3; unfold P2; omega
  match r with
  | [] => rw [nx3, if_neg c0, if_neg c2, if_pos c3, if_pos c8]
  | d :: r => rw [nx4, if_neg c0, if_neg c2, if_pos c3, if_pos c8]
theorem nxD (a b c d : UInt8) (r : List UInt8) (c4 : P4 (ub a) (ub b)) (c8 : C8 (ub c)) (d8 : C8 (ub d)) : nxL (a :: b :: c :: d :: r) = (v4 (ub a) (ub b) (ub c) (ub d), 4, true) := by
  have c0 : ¬ ub a < 128 := by unfold P4 at c4; omega
  have c2 : ¬ P2 (ub a) (ub b) := by unfold P4 at c4; unfold P2; omega
  have c3 : ¬ P3 (ub a) (ub b) := by unfold P4 at c4; unfold P3; omega
  rw [nx4, if_neg c0, if_neg c2, if_neg c3, if_pos c4, if_pos c8, if_pos d8]
abbrev u8Z (x : Int) : UInt8 := x.toNat.toUInt8
theorem ub_of {x : Int} (h : 0 ≤ x) (h2 : x < 256) : ub (u8Z x) = x := by
  unfold ub u8Z
  simp
  omega
def encB (c : Int) : List UInt8 := (Lib.encodeRuneZ c).map u8Z
theorem nx_enc {c : Int} (h : Scal c) (r : List UInt8) : nxL (encB c ++ r) = (c, ((encB c).length : Int), true) := by
  have hs := h
  unfold Scal at h
  unfold encB
  rcases encZ_cases hs with ⟨h1, e1⟩ | ⟨h1, h2, e1⟩ | ⟨h1, h2, e1⟩ | ⟨h1, e1⟩ <;> rw [e1]
  · show nxL (u8Z c :: r) = _
    have ec : ub (u8Z c) = c := ub_of (by omega) (by omega)
    rw [nxA _ _ (by rw [ec]; omega), ec]
    rfl
  · show nxL (u8Z (192 + c / 64) :: u8Z (128 + c % 64) :: r) = _
    have ea : ub (u8Z (192 + c / 64)) = 192 + c / 64 := ub_of (by omega) (by omega)
    have eb : ub (u8Z (128 + c % 64)) = 128 + c % 64 := ub_of (by omega) (by omega)
    rw [nxB _ _ _ (by rw [ea, eb]; unfold P2; omega), ea, eb, show v2 (192 + c / 64) (128 + c % 64) = c by unfold v2; omega]
    rfl
  · show nxL (u8Z (224 + c / 4096) :: u8Z (128 + c / 64 % 64) :: u8Z (128 + c % 64) :: r) = _
    have ea : ub (u8Z (224 + c / 4096)) = 224 + c / 4096 := ub_of (by omega) (by omega)
    have eb : ub (u8Z (128 + c / 64 % 64)) = 128 + c / 64 % 64 := ub_of (by omega) (by omega)
    have ec : ub (u8Z (128 + c % 64)) = 128 + c % 64 := ub_of (by omega) (by omega)
    rw [nxC _ _ _ _ (by rw [ea, eb]; unfold P3; omega) (by rw [ec]; unfold C8; omega), ea, eb, ec, show v3 (224 + c / 4096) (128 + c / 64 % 64) (128 + c % 64) = c by unfold v3; omega]
    rfl
  · show nxL (u8Z (240 + c / 262144) :: u8Z (128 + c / 4096 % 64) :: u8Z (128 + c / 64 % 64) :: u8Z (128 + c % 64) :: r) = _
    have ea : ub (u8Z (240 + c / 262144)) = 240 + c / 262144 := ub_of (by omega) (by omega)
    have eb : ub (u8Z (128 + c / 4096 % 64)) = 128 + c / 4096 % 64 := ub_of (by omega) (by omega)
    have ec : ub (u8Z (128 + c / 64 % 64)) = 128 + c / 64 % 64 := ub_of (by omega) (by omega)
    have ed : ub (u8Z (128 + c % 64)) = 128 + c % 64 := ub_of (by omega) (by omega)
    rw [nxD _ _ _ _ _ (by rw [ea, eb]; unfold P4; omega) (by rw [ec]; unfold C8; omega) (by rw [ed]; unfold C8; omega), ea, eb, ec, ed, show v4 (240 + c / 262144) (128 + c / 4096 % 64) (128 + c / 64 % 64) (128 + c % 64) = c by unfold v4; omega]
    rfl
def encL (l : List Int) : List UInt8 := l.flatMap encB
theorem encB_len (c : Int) : 1 ≤ (encB c).length ∧ (encB c).length ≤ 4 := by
  unfold encB
  rw [List.length_map]
  exact Lib.encodeRuneZ_length c
theorem encL_len : ∀ l : List Int, (encL l).length ≤ 4 * l.length
  | [] => Nat.zero_le _
  | c :: l => by
    have h1 := (encB_len c).2
    have h2 := encL_len l
    have e : encL (c :: l) = encB c ++ encL l := rfl
    rw [e, List.length_append, List.length_cons]
    omega
theorem dec_enc : ∀ (l : List Int) (f : Nat), (∀ x ∈ l, Scal x) → (encL l).length ≤ f → decL f (encL l) = l
  | [], f, _, _ => by cases f <;> rfl
  | c :: l, f, h, hf => by
    have e : encL (c :: l) = encB c ++ encL l := rfl
    have hb := encB_len c
    rw [e] at hf ⊢
    rw [List.length_append] at hf
    obtain ⟨f, rfl⟩ : ∃ f', f = f' + 1 := ⟨f - 1, by omega⟩
    have hne : encB c ++ encL l ≠ [] := fun h0 => by
      have := congrArg List.length h0
      rw [List.length_append, List.length_nil] at this
      omega
    rw [decL, if_neg hne, nx_enc (h c List.mem_cons_self)]
    show c :: decL f ((encB c ++ encL l).drop ((encB c).length : Int).toNat) = _
    rw [Int.toNat_natCast, List.drop_left, dec_enc l f (fun x hx => h x (List.mem_cons_of_mem _ hx)) (by omega)]
theorem runes_enc (l : List Int) : strOfNums (runesZ l) = mkB (encL l) := by
  have e : runesZ l = ints (encL l) := by
    induction l with
    | nil => rfl
    | cons c l ih =>
      have e1 : runesZ (c :: l) = Lib.encodeRuneZ c ++ runesZ l := rfl
      have e2 : encL (c :: l) = encB c ++ encL l := rfl
      rw [e1, e2, ih]
      unfold ints encB
      rw [List.map_append, List.map_map]
      congr 1
      conv => lhs; rw [← List.map_id (Lib.encodeRuneZ c)]
      refine List.map_congr_left fun x hx => ?_
      have := Lib.encodeRuneZ_byte c x hx
      exact (ub_of this.1 this.2).symm
  rw [e, strOfNums_ints]
theorem encP_scal {l : List Int} (h : ∀ x ∈ l, Scal x) : encP l = (mkB (encL l), 0) := by
  unfold encP
  have : l.all Lib.validRune = true := List.all_eq_true.2 fun x hx => by rw [valid_is]; exact decide_eq_true (h x hx)
  rw [if_pos this, runes_enc]

theorem nx_scal (t : List UInt8) : Scal (nxL t).1 := by
  have hz : Scal 65533 := by unfold Scal; omega
  have h1 : ∀ a : UInt8, ub a < 128 → Scal (ub a) := fun a h => by have := ub_rng a; unfold Scal; omega
  have h2 : ∀ a b : UInt8, P2 (ub a) (ub b) → Scal (v2 (ub a) (ub b)) := fun a b h => by unfold P2 at h; unfold Scal v2; omega
  have h3 : ∀ a b c : UInt8, P3 (ub a) (ub b) → C8 (ub c) → Scal (v3 (ub a) (ub b) (ub c)) := fun a b c h hc => by unfold P3 at h; unfold C8 at hc; unfold Scal v3; omega
  have h4 : ∀ a b c d : UInt8, P4 (ub a) (ub b) → C8 (ub c) → C8 (ub d) → Scal (v4 (ub a) (ub b) (ub c) (ub d)) := fun a b c d h hc hd => by unfold P4 at h; unfold C8 at hc hd; unfold Scal v4; omega
  match t with
  | [] => show Scal 0; unfold Scal; omega
  | [a] =>
    rw [nx1]
    by_cases c0 : ub a < 128
    · rw [if_pos c0]; exact h1 a c0
    · rw [if_neg c0]; exact hz
  | [a, b] =>
    rw [nx2]
    by_cases c0 : ub a < 128
    · rw [if_pos c0]; exact h1 a c0
    · rw [if_neg c0]
      by_cases c2 : P2 (ub a) (ub b)
      · rw [if_pos c2]; exact h2 a b c2
      · rw [if_neg c2]
        by_cases c3 : P3 (ub a) (ub b) ∨ P4 (ub a) (ub b)
        · rw [if_pos c3]; exact hz
        · rw [if_neg c3]; exact hz
  | [a, b, c] =>
    rw [nx3]
    by_cases c0 : ub a < 128
    · rw [if_pos c0]; exact h1 a c0
    · rw [if_neg c0]
      by_cases c2 : P2 (ub a) (ub b)
      · rw [if_pos c2]; exact h2 a b c2
      · rw [if_neg c2]
        by_cases c8 : C8 (ub c)
        · rw [if_pos c8, if_pos c8]
          by_cases c3 : P3 (ub a) (ub b)
          · rw [if_pos c3]; exact h3 a b c c3 c8
          · rw [if_neg c3]
            by_cases c4 : P4 (ub a) (ub b)
            · rw [if_pos c4]; exact hz
            · rw [if_neg c4]; exact hz
        · rw [if_neg c8, if_neg c8]
          by_cases c3 : P3 (ub a) (ub b)
          · rw [if_pos c3]; exact hz
          · rw [if_neg c3]
            by_cases c4 : P4 (ub a) (ub b)
            · rw [if_pos c4]; exact hz
            · rw [if_neg c4]; exact hz
  | a :: b :: c :: d :: r =>
    rw [nx4]
    by_cases c0 : ub a < 128
    · rw [if_pos c0]; exact h1 a c0
    · rw [if_neg c0]
      by_cases c2 : P2 (ub a) (ub b)
      · rw [if_pos c2]; exact h2 a b c2
      · rw [if_neg c2]
        by_cases c8 : C8 (ub c)
        · rw [if_pos c8, if_pos c8]
          by_cases c3 : P3 (ub a) (ub b)
          · rw [if_pos c3]; exact h3 a b c c3 c8
          · rw [if_neg c3]
            by_cases c4 : P4 (ub a) (ub b)
            · rw [if_pos c4]
              by_cases d8 : C8 (ub d)
              · rw [if_pos d8]; exact h4 a b c d c4 c8 d8
              · rw [if_neg d8]; exact hz
            · rw [if_neg c4]; exact hz
        · rw [if_neg c8, if_neg c8]
          by_cases c3 : P3 (ub a) (ub b)
          · rw [if_pos c3]; exact hz
          · rw [if_neg c3]
            by_cases c4 : P4 (ub a) (ub b)
            · rw [if_pos c4]; exact hz
            · rw [if_neg c4]; exact hz
theorem decL_scal : ∀ (f : Nat) (t : List UInt8), ∀ x ∈ decL f t, Scal x
  | 0, _, x, hx => by simp [decL] at hx
  | f + 1, t, x, hx => by
    rw [decL] at hx
    split at hx
    · simp at hx
    · rcases List.mem_cons.1 hx with rfl | hx
      · exact nx_scal t
      · exact decL_scal f _ x hx
theorem dec_stab : (ptsU.all fun r => (apartK 4 r).all fun x => decide (0 ≤ x ∧ x ≤ 1114111 ∧ (x < 55296 ∨ 57343 < x))) = true := by decide +kernel
theorem apart_scal {r : Int} (h : Scal r) : ∀ y ∈ apartK 4 r, Scal y := fun y hy => by
  by_cases hm : r ∈ ptsU
  · show 0 ≤ y ∧ y ≤ 1114111 ∧ (y < 55296 ∨ 57343 < y)
    exact of_decide_eq_true (List.all_eq_true.1 (List.all_eq_true.1 dec_stab r hm) y hy)
  · rw [apartK_nil (decU_pts hm)] at hy
    rw [List.mem_singleton.1 hy]
    exact h
theorem nfd_scal {l : List Int} (h : ∀ x ∈ l, Scal x) : ∀ y ∈ nfdU l, Scal y := fun y hy => by
  have hy2 : y ∈ apL l := (ordM_perm clsU (apL l)).mem_iff.1 hy
  unfold apL at hy2
  obtain ⟨x, hx, hy3⟩ := List.mem_flatMap.1 hy2
  exact apart_scal (h x hx) y hy3
def skipU (r : Int) : Bool := r == 173 || r == 8204 || r == 8205
def likeT : List (Int × List Int) := [(48, [111]), (49, [108]), (109, [114, 110]), (945, [97]), (957, [118]), (959, [111]), (961, [112]), (1072, [97]), (1077, [101]), (1086, [111]), (1088, [112]), (1089, [99]), (1091, [121]), (1093, [120]), (1109, [115]), (1110, [105]), (1112, [106]), (1505, [111]), (1575, [108]), (12540, [19968])]
def likeU (r : Int) : List Int := match likeT.find? (fun p => p.1 == r) with
  | some p => p.2
  | none => [r]
def foldU (l : List Int) : List Int := l.flatMap fun r => if skipU r = true then [] else likeU r
def skU (l : List Int) : List Int := nfdU (foldU (nfdU l))
def Fx (z : Int) : Prop := skipU z = false ∧ likeU z = [z]
theorem like_tab : (likeT.all fun p => p.2.all fun y => (apartK 4 y).all fun z => !skipU z && likeU z == [z]) = true := by decide +kernel
theorem fold_fx {l : List Int} (h : ∀ z ∈ l, Fx z) : foldU l = l := by
  induction l with
  | nil => rfl
  | cons z l ih =>
    have hz := h z List.mem_cons_self
    have e : foldU (z :: l) = (if skipU z = true then [] else likeU z) ++ foldU l := rfl
    rw [e, ih (fun x hx => h x (List.mem_cons_of_mem _ hx)), hz.1, if_neg (by decide), hz.2]
    rfl
theorem sk_fx (l : List Int) : ∀ z ∈ skU l, Fx z := fun z hz => by
  have hz2 : z ∈ apL (foldU (nfdU l)) := (ordM_perm clsU _).mem_iff.1 hz
  unfold apL at hz2
  obtain ⟨y, hy, hz3⟩ := List.mem_flatMap.1 hz2
  obtain ⟨r, hr, hy2⟩ := List.mem_flatMap.1 hy
  by_cases hs : skipU r = true
  · rw [if_pos hs] at hy2
    simp at hy2
  · rw [if_neg hs] at hy2
    cases hf : likeT.find? (fun p => p.1 == r) with
    | some p =>
      have e : likeU r = p.2 := by unfold likeU; rw [hf]
      rw [e] at hy2
      have h1 := List.all_eq_true.1 (List.all_eq_true.1 (List.all_eq_true.1 like_tab p (List.mem_of_find?_eq_some hf)) y hy2) z hz3
      simp only [Bool.and_eq_true, Bool.not_eq_true', beq_iff_eq] at h1
      exact h1
    | none =>
      have e : likeU r = [r] := by unfold likeU; rw [hf]
      rw [e] at hy2
      obtain rfl := List.mem_singleton.1 hy2
      rw [apartK_nil (nfd_fd l y hr)] at hz3
      obtain rfl := List.mem_singleton.1 hz3
      exact ⟨Bool.eq_false_iff.2 hs, e⟩
theorem sk_sk (l : List Int) : skU (skU l) = skU l := by
  have h1 : nfdU (skU l) = skU l := nfd_nfd (foldU (nfdU l))
  have h2 : foldU (skU l) = skU l := fold_fx (sk_fx l)
  show nfdU (foldU (nfdU (skU l))) = skU l
  rw [h1, h2, h1]
theorem foldU_append (a b : List Int) : foldU (a ++ b) = foldU a ++ foldU b := List.flatMap_append
end Go.Proofs.YtncbbgmhmofhnaaDoor.Pr
end

section
namespace Go.Proofs.YtncbbgmhmofhnaaDoor.Pr
open Go.RowKit Go.Proofs.YtncbbgmhmofhnaaDoorW.PrintWords Go.Proofs.YtncbbgmhmofhnaaDoorW.PrintLast Go.Proofs.YtncbbgmhmofhnaaDoorW.PrintMore
set_option linter.unusedVariables false
set_option linter.unusedSimpArgs false

theorem like_none (r : Int) (h48 : ¬ r = 48) (h49 : ¬ r = 49) (h109 : ¬ r = 109) (h945 : ¬ r = 945) (h957 : ¬ r = 957) (h959 : ¬ r = 959) (h961 : ¬ r = 961) (h1072 : ¬ r = 1072) (h1077 : ¬ r = 1077) (h1086 : ¬ r = 1086) (h1088 : ¬ r = 1088) (h1089 : ¬ r = 1089) (h1091 : ¬ r = 1091) (h1093 : ¬ r = 1093) (h1109 : ¬ r = 1109) (h1110 : ¬ r = 1110) (h1112 : ¬ r = 1112) (h1505 : ¬ r = 1505) (h1575 : ¬ r = 1575) (h12540 : ¬ r = 12540) : likeU r = [r] := by
  have : likeT.find? (fun p => p.1 == r) = none := List.find?_eq_none.2 fun p hp => by
    simp only [likeT, List.mem_cons, List.not_mem_nil, or_false] at hp
    rcases hp with rfl | rfl | rfl | rfl | rfl | rfl | rfl | rfl | rfl | rfl | rfl | rfl | rfl | rfl | rfl | rfl | rfl | rfl | rfl | rfl <;> simp <;> omega
  unfold likeU
  rw [this]
theorem like_both (k : Nat) (r : Int) : portcullisref03_Like.f r = some (likeU r) ∧ unidata_Like.f (k + 5) r = some (likeU r) := by
  by_cases h48 : r = 48
  · subst h48; exact ⟨by kernel_rfl, by kernel_rfl⟩
  by_cases h49 : r = 49
  · subst h49; exact ⟨by kernel_rfl, by kernel_rfl⟩
  by_cases h109 : r = 109
  · subst h109; exact ⟨by kernel_rfl, by kernel_rfl⟩
  by_cases h945 : r = 945
  · subst h945; exact ⟨by kernel_rfl, by kernel_rfl⟩
  by_cases h957 : r = 957
  · subst h957; exact ⟨by kernel_rfl, by kernel_rfl⟩
  by_cases h959 : r = 959
  · subst h959; exact ⟨by kernel_rfl, by kernel_rfl⟩
  by_cases h961 : r = 961
  · subst h961; exact ⟨by kernel_rfl, by kernel_rfl⟩
  by_cases h1072 : r = 1072
  · subst h1072; exact ⟨by kernel_rfl, by kernel_rfl⟩
  by_cases h1077 : r = 1077
  · subst h1077; exact ⟨by kernel_rfl, by kernel_rfl⟩
  by_cases h1086 : r = 1086
  · subst h1086; exact ⟨by kernel_rfl, by kernel_rfl⟩
  by_cases h1088 : r = 1088
  · subst h1088; exact ⟨by kernel_rfl, by kernel_rfl⟩
  by_cases h1089 : r = 1089
  · subst h1089; exact ⟨by kernel_rfl, by kernel_rfl⟩
  by_cases h1091 : r = 1091
  · subst h1091; exact ⟨by kernel_rfl, by kernel_rfl⟩
  by_cases h1093 : r = 1093
  · subst h1093; exact ⟨by kernel_rfl, by kernel_rfl⟩
  by_cases h1109 : r = 1109
  · subst h1109; exact ⟨by kernel_rfl, by kernel_rfl⟩
  by_cases h1110 : r = 1110
  · subst h1110; exact ⟨by kernel_rfl, by kernel_rfl⟩
  by_cases h1112 : r = 1112
  · subst h1112; exact ⟨by kernel_rfl, by kernel_rfl⟩
  by_cases h1505 : r = 1505
  · subst h1505; exact ⟨by kernel_rfl, by kernel_rfl⟩
  by_cases h1575 : r = 1575
  · subst h1575; exact ⟨by kernel_rfl, by kernel_rfl⟩
  by_cases h12540 : r = 12540
  · subst h12540; exact ⟨by kernel_rfl, by kernel_rfl⟩
  rw [like_none r h48 h49 h109 h945 h957 h959 h961 h1072 h1077 h1086 h1088 h1089 h1091 h1093 h1109 h1110 h1112 h1505 h1575 h12540]
  refine ⟨?_, ?_⟩
  · simp [portcullisref03_Like.f, *]
  · simp [unidata_Like.f, unidata_Like.j0, unidata_Like.j1, unidata_Like.j2, unidata_Like.j3, *]

theorem apart_tab4 : (ptsU.all fun r => decide ((apartK 4 r).length ≤ 4)) = true := by decide +kernel
theorem apart_len4 (r : Int) : (apartK 4 r).length ≤ 4 := by
  by_cases hm : r ∈ ptsU
  · exact of_decide_eq_true (List.all_eq_true.1 apart_tab4 r hm)
  · rw [apartK_nil (decU_pts hm)]; simp
theorem apL_len4 : ∀ l : List Int, (apL l).length ≤ 4 * l.length
  | [] => Nat.zero_le _
  | x :: l => by
    have h1 := apart_len4 x
    have h2 := apL_len4 l
    have e : apL (x :: l) = apartK 4 x ++ apL l := rfl
    rw [e, List.length_append, List.length_cons]
    omega
theorem nfd_len4 (l : List Int) : (nfdU l).length ≤ 4 * l.length := by
  have := apL_len4 l
  unfold nfdU
  rw [ordM_len]; exact this
theorem like_ltab : (likeT.all fun p => decide (p.2.length ≤ 2) && p.2.all fun y => decide (0 ≤ y ∧ y ≤ 1114111 ∧ (y < 55296 ∨ 57343 < y))) = true := by decide +kernel
theorem like_all (r : Int) (h : Scal r) : (likeU r).length ≤ 2 ∧ ∀ y ∈ likeU r, Scal y := by
  unfold likeU
  cases hf : likeT.find? (fun p => p.1 == r) with
  | some p =>
    have h1 := List.all_eq_true.1 like_ltab p (List.mem_of_find?_eq_some hf)
    simp only [Bool.and_eq_true, decide_eq_true_eq, List.all_eq_true] at h1
    exact ⟨h1.1, fun y hy => h1.2 y hy⟩
  | none => exact ⟨by simp, fun y hy => by rw [List.mem_singleton.1 hy]; exact h⟩
theorem fold_scal {l : List Int} (h : ∀ x ∈ l, Scal x) : ∀ y ∈ foldU l, Scal y := fun y hy => by
  obtain ⟨x, hx, hy2⟩ := List.mem_flatMap.1 hy
  split at hy2
  · simp at hy2
  · exact (like_all x (h x hx)).2 y hy2
theorem fold_len : ∀ {l : List Int}, (∀ x ∈ l, Scal x) → (foldU l).length ≤ 2 * l.length
  | [], _ => Nat.zero_le _
  | x :: l, h => by
    have h1 := (like_all x (h x List.mem_cons_self)).1
    have h2 := fold_len fun y hy => h y (List.mem_cons_of_mem x hy)
    have e : foldU (x :: l) = (if skipU x = true then [] else likeU x) ++ foldU l := rfl
    rw [e, List.length_append, List.length_cons]
    split
    · simp; omega
    · omega
theorem sk_scal {l : List Int} (h : ∀ x ∈ l, Scal x) : ∀ y ∈ skU l, Scal y := nfd_scal (fold_scal (nfd_scal h))
theorem scal_rng {x : Int} (h : Scal x) : -2147483648 ≤ x ∧ x ≤ 2147483647 := by unfold Scal at h; omega

theorem foldU_snoc (pre : List Int) (x : Int) : foldU (pre ++ [x]) = foldU pre ++ (if skipU x = true then [] else likeU x) := by
  rw [foldU_append]
  congr 1
  exact List.append_nil _
theorem skip_or {x : Int} (h : skipU x = true) : x = 173 ∨ x = 8204 ∨ x = 8205 := by
  unfold skipU at h
  simp only [Bool.or_eq_true, beq_iff_eq] at h
  omega
theorem skip_no {x : Int} (h : ¬ skipU x = true) : x ≠ 173 ∧ x ≠ 8204 ∧ x ≠ 8205 := by
  unfold skipU at h
  simp only [Bool.or_eq_true, beq_iff_eq] at h
  omega
theorem fold_pre (d pre rest : List Int) (h : d = pre ++ rest) : (foldU pre).length ≤ (foldU d).length := by
  rw [h, foldU_append, List.length_append]; omega
theorem skel_l0 (d : List Int) (hd : d.length ≤ 60000) (hf : (foldU d).length ≤ 60000) (hs : ∀ x ∈ nfdU (foldU d), Scal x) : ∀ (rest pre : List Int), d = pre ++ rest → Ev (fun k => skel_Skeleton.l0 k (foldU pre) d (d.length : Int) (pre.length : Int)) (mkB (encL (nfdU (foldU d))))
  | [], pre, h => by
    have e : d = pre := by rw [h]; simp
    have hl := nfd_len (foldU d)
    refine Ev.one fun k => ?_
    rw [skel_Skeleton.l0, if_neg (by rw [e]; omega), ← e, nfd_is _ hf, Option.bind_some]
    unfold utf_Encode.f
    rw [if_pos ⟨by omega, fun x hx => scal_rng (hs x hx)⟩, Option.bind_some, encP_scal hs]
  | x :: rest, pre, h => by
    have hr : rd d (pre.length : Int) = x := by rw [h]; exact rd_app pre _ x
    have hl : d.length = pre.length + (rest.length + 1) := by rw [h]; simp
    have hw : wrap64 ((pre.length : Int) + 1) = (((pre ++ [x]).length : Nat) : Int) := by rw [w64n _ (by omega)]; simp
    have ih := skel_l0 d hd hf hs rest (pre ++ [x]) (by rw [h]; simp)
    have hfp := fold_pre d (pre ++ [x]) rest (by rw [h]; simp)
    rw [foldU_snoc] at ih hfp
    by_cases hk : skipU x = true
    · rw [if_pos hk, List.append_nil] at ih
      refine Ev.step (fun k => ?_) ih
      rw [skel_Skeleton.l0, if_pos (by omega), if_pos (by omega), if_pos (by omega), hr, hw]
      rcases skip_or hk with e | e | e
      · rw [if_pos e]
      · rw [if_neg (by omega), if_pos e]
      · rw [if_neg (by omega), if_neg (by omega), if_pos e]
    · rw [if_neg hk] at ih hfp
      rw [List.length_append] at hfp
      obtain ⟨n1, n2, n3⟩ := skip_no hk
      refine Ev.stepG 5 (fun k hk5 => ?_) ih
      obtain ⟨k, rfl⟩ : ∃ k', k = k' + 5 := ⟨k - 5, by omega⟩
      rw [skel_Skeleton.l0, if_pos (by omega), if_pos (by omega), if_pos (by omega), hr, hw, if_neg n1, if_neg n2, if_neg n3, (like_both k x).2, Option.bind_some, if_pos (by omega)]
/-- The skeleton of bytes. -/
def skB (t : List UInt8) : List UInt8 := encL (skU (decL t.length t))
theorem skeleton_is (t : List UInt8) (ht : t.length ≤ 1000000000) (hd : (nfdU (decL t.length t)).length ≤ 60000) (hd0 : (decL t.length t).length ≤ 60000) (hf : (foldU (nfdU (decL t.length t))).length ≤ 60000) : Ev (fun k => skel_Skeleton.f k (mkB t)) (mkB (skB t)) := by
  have hs := sk_scal (decL_scal t.length t)
  have := skel_l0 (nfdU (decL t.length t)) hd hf hs (nfdU (decL t.length t)) [] rfl
  refine Ev.of_eq (fun k => ?_) this
  unfold skel_Skeleton.f
  rw [utfDecode_is t ht, Option.bind_some, nfd_is _ hd0, Option.bind_some]
  rfl
/-- A text whose skeleton may be asked. -/
structure Sma (t : List UInt8) : Prop where
  a : t.length ≤ 1000000000
  b : (nfdU (decL t.length t)).length ≤ 60000
  c : (decL t.length t).length ≤ 60000
  d : (foldU (nfdU (decL t.length t))).length ≤ 60000
theorem Sma.of (t : List UInt8) (h : t.length ≤ 7000) : Sma t := by
  have h1 := decL_len t.length t
  have h2 := nfd_len4 (decL t.length t)
  have h3 := fold_len (nfd_scal (decL_scal t.length t))
  exact ⟨by omega, by omega, by omega, by omega⟩
theorem dec_encL {l : List Int} (h : ∀ x ∈ l, Scal x) : decL (encL l).length (encL l) = l := dec_enc l _ h (Nat.le_refl _)
theorem Sma.sk (t : List UInt8) (h : t.length ≤ 1000) : Sma (skB t) := by
  have h1 := decL_len t.length t
  have hs := sk_scal (decL_scal t.length t)
  have h2 := nfd_len4 (decL t.length t)
  have h3 := fold_len (nfd_scal (decL_scal t.length t))
  have h4 : (skU (decL t.length t)).length ≤ 4 * (foldU (nfdU (decL t.length t))).length := nfd_len4 _
  have e : decL (skB t).length (skB t) = skU (decL t.length t) := dec_encL hs
  have e1 : nfdU (skU (decL t.length t)) = skU (decL t.length t) := nfd_nfd _
  have e2 : foldU (skU (decL t.length t)) = skU (decL t.length t) := fold_fx (sk_fx _)
  have h5 := encL_len (skU (decL t.length t))
  refine ⟨?_, ?_, ?_, ?_⟩
  · unfold skB; omega
  · rw [e, e1]; omega
  · rw [e]; omega
  · rw [e, e1, e2]; omega
theorem Sma.is {t : List UInt8} (h : Sma t) : Ev (fun k => skel_Skeleton.f k (mkB t)) (mkB (skB t)) := skeleton_is t h.a h.b h.c h.d
theorem mkB_list (l : List UInt8) : (mkB l).toList = l := by rw [Lib.toList_data, data_mkB]
theorem alike_is {s t : List UInt8} (hs : Sma s) (ht : Sma t) : Ev (fun k => skel_Alike.f k (mkB s) (mkB t)) (decide (skB s = skB t)) := by
  obtain ⟨K1, h1⟩ := hs.is
  obtain ⟨K2, h2⟩ := ht.is
  refine ⟨K1 + K2, fun k hk => ?_⟩
  have e1 := h1 k (by omega)
  have e2 := h2 k (by omega)
  simp only at e1 e2 ⊢
  unfold skel_Alike.f
  rw [e1, Option.bind_some, e2, Option.bind_some, mkB_list, mkB_list]
  congr 1
  by_cases e : skB s = skB t
  · rw [e]; simp
  · rw [decide_eq_false e]; simpa using e
theorem skB_skB (t : List UInt8) : skB (skB t) = skB t := by
  have hs := sk_scal (decL_scal t.length t)
  have e : decL (skB t).length (skB t) = skU (decL t.length t) := dec_encL hs
  show encL (skU (decL (skB t).length (skB t))) = _
  rw [e, sk_sk]
  rfl
end Go.Proofs.YtncbbgmhmofhnaaDoor.Pr
end

section
namespace Go.Proofs.YtncbbgmhmofhnaaDoor.Pr
open Go.RowKit Go.Proofs.YtncbbgmhmofhnaaDoorW.PrintWords Go.Proofs.YtncbbgmhmofhnaaDoorW.PrintLast Go.Proofs.YtncbbgmhmofhnaaDoorW.PrintMore
set_option linter.unusedVariables false
set_option linter.unusedSimpArgs false
attribute [local go_sem] Oper.semAt_some

def vB (x : Int) : Value := .int .u8 x
structure ApB (base Bs : Nat) (w : World) (pre : List Int) (O : Nat → Prop) (W : World) : Prop where
  ex : ∃ v, Boxed W Bs 27 v ∧ W.ownsRow base 5 1 v pre.length (pre.map vB) ∧ (∀ k, v.ownBlock = some k → O k)
  below : Below base w W
theorem ApB.abides {base Bs n1 : Nat} {w : World} {pre : List Int} {O Q : Nat → Prop} {A B : World} (h : ApB base Bs w pre O A) (hQ : ∀ k, Q k → base ≤ k ∧ k ≠ Bs) (hB : Bs < n1) (hb : base ≤ n1) (hs : base ≤ A.heap.size) (hO : ¬ O Bs)
    (ht : Turned (fun k => (Q k ∨ n1 ≤ k) ∧ ¬ O k) A B) : ApB base Bs w pre O B := by
  obtain ⟨v, h1, h2, h3⟩ := h.ex
  have hk : ∀ k, v.ownBlock = some k → ¬ ((Q k ∨ n1 ≤ k) ∧ ¬ O k) := fun k e hh => hh.2 (h3 k e)
  refine ⟨⟨v, ?_, ownsRow_turned h2 ht hk, h3⟩, ht.below h.below hs (fun k hk hh => ?_)⟩
  · refine (ht.same Bs h1.lt (fun hh => ?_)).trans h1
    rcases hh.1 with h' | h'
    · exact (hQ _ h').2 rfl
    · omega
  · rcases hh.1 with h' | h'
    · have := (hQ k h').1; omega
    · omega
end Go.Proofs.YtncbbgmhmofhnaaDoor.Pr
end

section
namespace Go.Proofs.YtncbbgmhmofhnaaDoor.Pr
open Go.RowKit Go.Proofs.YtncbbgmhmofhnaaDoorW.PrintWords Go.Proofs.YtncbbgmhmofhnaaDoorW.PrintLast Go.Proofs.YtncbbgmhmofhnaaDoorW.PrintMore
set_option linter.unusedVariables false
set_option linter.unusedSimpArgs false

def scrN (r : Int) : Nat := (findU r).f3.toNat
theorem scr_tab : ((uT0 ++ uT1 ++ uT2).all fun y => decide (0 ≤ y.f3 ∧ y.f3 ≤ 11)) = true := by decide +kernel
theorem scr_rng (r : Int) : 0 ≤ (findU r).f3 ∧ (findU r).f3 ≤ 11 := by
  unfold findU
  cases e : (uT0 ++ uT1 ++ uT2).find? (inU r) with
  | none => exact ⟨by decide, by decide⟩
  | some y => exact of_decide_eq_true (List.all_eq_true.1 scr_tab y (List.mem_of_find?_eq_some e))
theorem scrN_lt (r : Int) : scrN r < 12 := by have := scr_rng r; unfold scrN; omega
theorem scr_is (r : Int) : unidata_Script.f r = some (scrN r : Int) := by
  have h : unidata_Script.f r = some (findU r).f3 := rfl
  have := scr_rng r
  rw [h]
  unfold scrN
  congr 1
  omega
def mstep (b : Nat) (r : Int) : Nat := b ||| 2 ^ scrN r
def mskU (l : List Int) : Nat := l.foldl mstep 0
theorem two_lt {s : Nat} (h : s < 12) : 2 ^ s < 4096 := Nat.pow_lt_pow_right (by omega) h
theorem mstep_lt {b : Nat} (hb : b < 4096) (r : Int) : mstep b r < 4096 := Nat.or_lt_two_pow (n := 12) hb (two_lt (scrN_lt r))
theorem mfold_lt : ∀ (l : List Int) {b : Nat}, b < 4096 → l.foldl mstep b < 4096
  | [], _, h => h
  | x :: l, _, h => mfold_lt l (mstep_lt h x)
theorem mskU_lt (l : List Int) : mskU l < 4096 := mfold_lt l (by omega)
theorem bits_l0 (d : List Int) (hd : d.length ≤ 1000000000) : ∀ (rest pre : List Int) (b f : Nat), d = pre ++ rest → b < 4096 → rest.length + 1 ≤ f → skel_bits.l0 f (b : Int) d (d.length : Int) (pre.length : Int) = some (((rest.foldl mstep b) / 4 * 4 : Nat) : Int)
  | [], pre, b, f, h, hb, hf => by
    have e : d = pre := by rw [h]; simp
    obtain ⟨f, rfl⟩ : ∃ f', f = f' + 1 := ⟨f - 1, by omega⟩
    rw [skel_bits.l0, if_neg (by rw [e]; omega), not3_is b hb]
    rfl
  | x :: rest, pre, b, f, h, hb, hf => by
    have hr : rd d (pre.length : Int) = x := by rw [h]; exact rd_app pre _ x
    have hl : d.length = pre.length + (rest.length + 1) := by rw [h]; simp
    have hw : wrap64 ((pre.length : Int) + 1) = (((pre ++ [x]).length : Nat) : Int) := by rw [w64n _ (by omega)]; simp
    rw [List.length_cons] at hf
    obtain ⟨f, rfl⟩ : ∃ f', f = f' + 1 := ⟨f - 1, by omega⟩
    have hs := scrN_lt x
    have h2 := two_lt hs
    have ho : Go.bits .or .u16 (b : Int) (shl .u16 1 (scrN x : Int)) = ((mstep b x : Nat) : Int) := by
      rw [shl16_is _ hs, bits_or16 _ _ (by omega) (by omega)]
      rfl
    rw [skel_bits.l0, if_pos (by omega), if_pos (by omega), if_pos (by omega), hr, scr_is, Option.bind_some, if_pos (by omega), ho, hw]
    exact bits_l0 d hd rest (pre ++ [x]) (mstep b x) f (by rw [h]; simp) (mstep_lt hb x) (by omega)
/-- The mask of a text. -/
def mskB (t : List UInt8) : Nat := mskU (decL t.length t) / 4 * 4
theorem mskB_lt (t : List UInt8) : mskB t < 4096 := by
  have := mskU_lt (decL t.length t)
  unfold mskB
  omega
theorem bits_is (t : List UInt8) (ht : t.length ≤ 1000000000) (f : Nat) (hf : t.length + 1 ≤ f) : skel_bits.f f (mkB t) = some (mskB t : Int) := by
  have hl := decL_len t.length t
  unfold skel_bits.f
  rw [utfDecode_is t ht, Option.bind_some]
  exact bits_l0 (decL t.length t) (by omega) (decL t.length t) [] 0 f rfl (by omega) (by omega)
def lowB (t : List UInt8) : Bool := t.all fun c => decide (ub c < 128)
theorem high_is (t : List UInt8) : highB (mkB t) = !lowB t := by
  have hb : ∀ j (h : j < t.length), byteN (mkB t) j = ub t[j] := fun j h => by
    unfold byteN ub
    rw [data_mkB, List.getD_eq_getElem?_getD, List.getElem?_eq_getElem h]
    rfl
  unfold highB lowB
  rw [mkB_size, Bool.eq_iff_iff]
  simp only [List.any_eq_true, List.mem_range, decide_eq_true_eq, Bool.not_eq_true', List.all_eq_false]
  constructor
  · rintro ⟨j, hj, h⟩
    exact ⟨t[j], List.getElem_mem hj, by rw [hb j hj] at h; omega⟩
  · rintro ⟨c, hc, h⟩
    obtain ⟨j, hj, rfl⟩ := List.getElem_of_mem hc
    exact ⟨j, hj, by rw [hb j hj]; omega⟩
/-- The level of a text. -/
def lvlB (t : List UInt8) : Int := if lowB t = true then 1 else lvI (mskB t : Int)
theorem level_is (t : List UInt8) (ht : t.length ≤ 1000000000) : skel_Level.f (mkB t) = some (lvlB t) := by
  have := mskB_lt t
  unfold skel_Level.f lvlB
  rw [if_pos (by rw [mkB_size]; exact ht), high_is]
  cases lowB t with
  | true => rfl
  | false =>
    show (if true = false then some 1 else _) = _
    rw [if_neg (by decide), bits_is t ht _ (by rw [mkB_size]; omega), Option.bind_some, if_pos (by omega)]
    rfl

theorem works_a : skB [109] = [114, 110] := by decide +kernel
theorem works_b : skB [114, 110] = [114, 110] := by decide +kernel
theorem works_c : skB [97] ≠ skB [98] := by decide +kernel
theorem works_d : skB [112, 208, 176, 121, 112, 97, 49] = [112, 97, 121, 112, 97, 108] := by decide +kernel
theorem works_e : lvlB [97, 98, 208, 176] = 5 := by decide +kernel
theorem works_f : lvlB [97, 98, 99] = 1 := by decide +kernel
theorem works_of : skel_Of.f ⟨#[76, 97, 116, 105, 110]⟩ = some (2, 0) := by decide +kernel
theorem works8_is : Ev (fun k => portcullislaw08_works.f k) true := by
  obtain ⟨K1, h1⟩ := (Sma.of [109] (by simp)).is
  obtain ⟨K2, h2⟩ := alike_is (Sma.of [114, 110] (by simp)) (Sma.of [109] (by simp))
  obtain ⟨K3, h3⟩ := alike_is (Sma.of [97] (by simp)) (Sma.of [98] (by simp))
  obtain ⟨K4, h4⟩ := (Sma.of [112, 208, 176, 121, 112, 97, 49] (by simp)).is
  have l1 := level_is [97, 98, 208, 176] (by simp)
  have l2 := level_is [97, 98, 99] (by simp)
  refine ⟨K1 + K2 + K3 + K4, fun k hk => ?_⟩
  have e1 := h1 k (by omega)
  have e2 := h2 k (by omega)
  have e3 := h3 k (by omega)
  have e4 := h4 k (by omega)
  simp only at e1 e2 e3 e4 ⊢
  rw [works_a] at e1
  rw [decide_eq_true (by rw [works_a, works_b])] at e2
  rw [decide_eq_false works_c] at e3
  rw [works_d] at e4
  rw [works_e] at l1
  rw [works_f] at l2
  unfold portcullislaw08_works.f
  show (skel_Of.f _).bind _ = _
  rw [works_of, Option.bind_some]
  have e1' : skel_Skeleton.f k ⟨#[109]⟩ = some (mkB [114, 110]) := e1
  have e2' : skel_Alike.f k ⟨#[114, 110]⟩ ⟨#[109]⟩ = some true := e2
  have e3' : skel_Alike.f k ⟨#[97]⟩ ⟨#[98]⟩ = some false := e3
  have e4' : skel_Skeleton.f k ⟨#[112, 208, 176, 121, 112, 97, 49]⟩ = some (mkB [112, 97, 121, 112, 97, 108]) := e4
  have l1' : skel_Level.f ⟨#[97, 98, 208, 176]⟩ = some 5 := l1
  have l2' : skel_Level.f ⟨#[97, 98, 99]⟩ = some 1 := l2
  rw [e1', Option.bind_some, if_pos (by rw [mkB_list]), e2', Option.bind_some, if_pos rfl, e3', Option.bind_some, if_neg (by decide), e4', Option.bind_some, if_pos (by rw [mkB_list]), l1', Option.bind_some, if_pos rfl, l2', Option.bind_some, if_pos rfl]
  decide +kernel
end Go.Proofs.YtncbbgmhmofhnaaDoor.Pr
end

section
namespace Go.Proofs.YtncbbgmhmofhnaaDoor.Pure
open Go.RowKit Go.Proofs.YtncbbgmhmofhnaaDoor.Pr Go.Proofs.YtncbbgmhmofhnaaDoorW.PrintWords Go.Proofs.YtncbbgmhmofhnaaDoorW.PrintLast Go.Proofs.YtncbbgmhmofhnaaDoorW.PrintMore
set_option linter.unusedVariables false
set_option linter.unusedSimpArgs false

theorem rests_main (t : List UInt8) (ht : t.length ≤ 600) : Pr.Ev (fun k => portcullislaw08_SkelRests.f k (mkB t)) true := by
  obtain ⟨K0, h0⟩ := works8_is
  obtain ⟨K1, h1⟩ := (Sma.of t (by omega)).is
  obtain ⟨K2, h2⟩ := (Sma.sk t (by omega)).is
  obtain ⟨K3, h3⟩ := alike_is (Sma.of t (by omega)) (Sma.sk t (by omega))
  refine ⟨K0 + K1 + K2 + K3, fun k hk => ?_⟩
  have e0 := h0 k (by omega)
  have e1 := h1 k (by omega)
  have e2 := h2 k (by omega)
  have e3 := h3 k (by omega)
  simp only at e0 e1 e2 e3 ⊢
  rw [skB_skB] at e2
  rw [skB_skB, decide_eq_true rfl] at e3
  unfold portcullislaw08_SkelRests.f
  rw [if_neg (by rw [mkB_size]; omega), e1, Option.bind_some, e2, Option.bind_some, if_pos rfl, e3, Option.bind_some, if_pos rfl, e0, Option.bind_some]
theorem SkelRests : portcullislaw08_SkelRests.Pure := by
  intro s hs
  have hd := mkB_data s
  by_cases c : (s.size : Int) > 600
  · obtain ⟨K, h⟩ := works8_is
    refine ⟨K, ?_⟩
    have e := h K (Nat.le_refl _)
    simp only at e
    unfold portcullislaw08_SkelRests.f
    rw [if_pos c, e, Option.bind_some]
  · have hz := mkB_size s.data.toList
    rw [hd] at hz
    have := (rests_main s.data.toList (by omega)).ex
    rw [hd] at this
    exact this
end Go.Proofs.YtncbbgmhmofhnaaDoor.Pure
end
