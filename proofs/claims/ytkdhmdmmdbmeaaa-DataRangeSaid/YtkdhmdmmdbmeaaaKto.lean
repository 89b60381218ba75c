import Derived.Test.YtkdhmdmmdbmeaaaKto1
namespace Go.Proofs.Ytkdhmdmmdbmeaaa.Pr
open Go.RowKit Go.Proofs.YtkdhmdmmdbmeaaaW.PrintWords Go.Proofs.YtkdhmdmmdbmeaaaW.PrintLast Go.Proofs.YtkdhmdmmdbmeaaaW.PrintMore
set_option linter.unusedVariables false
set_option linter.unusedSimpArgs false

def unidata_to.f (r : Int) : Option (List Int) :=
  if 65 ≤ r ∧ r ≤ 90 then some [wrap32 (r + 32)] else
  if 192 ≤ r ∧ r ≤ 214 then some [wrap32 (r + 32)] else
  if 216 ≤ r ∧ r ≤ 222 then some [wrap32 (r + 32)] else
  if 913 ≤ r ∧ r ≤ 929 then some [wrap32 (r + 32)] else
  if 931 ≤ r ∧ r ≤ 937 then some [wrap32 (r + 32)] else
  if 1040 ≤ r ∧ r ≤ 1071 then some [wrap32 (r + 32)] else
  if 170 ≤ r ∧ r ≤ 170 then some [97] else
  if 178 ≤ r ∧ r ≤ 179 then some [wrap32 (r - 128)] else
  if 185 ≤ r ∧ r ≤ 185 then some [49] else
  if 186 ≤ r ∧ r ≤ 186 then some [111] else
  if 376 ≤ r ∧ r ≤ 376 then some [255] else
  if 469 ≤ r ∧ r ≤ 469 then some [470] else
  if 902 ≤ r ∧ r ≤ 902 then some [940] else
  if 904 ≤ r ∧ r ≤ 906 then some [wrap32 (r + 37)] else
  if 908 ≤ r ∧ r ≤ 908 then some [972] else
  if 910 ≤ r ∧ r ≤ 911 then some [wrap32 (r + 63)] else
  if 1025 ≤ r ∧ r ≤ 1025 then some [1105] else
  if 1029 ≤ r ∧ r ≤ 1030 then some [wrap32 (r + 80)] else
  if 1032 ≤ r ∧ r ≤ 1032 then some [1112] else
  if 7776 ≤ r ∧ r ≤ 7776 then some [7777] else
  if 7778 ≤ r ∧ r ≤ 7778 then some [7779] else
  if 7784 ≤ r ∧ r ≤ 7784 then some [7785] else
  if 7838 ≤ r ∧ r ≤ 7838 then some [115, 115] else
  if 8486 ≤ r ∧ r ≤ 8486 then some [969] else
  if 8490 ≤ r ∧ r ≤ 8490 then some [107] else
  if 8491 ≤ r ∧ r ≤ 8491 then some [229] else
  if 12290 ≤ r ∧ r ≤ 12290 then some [46] else
  if 65294 ≤ r ∧ r ≤ 65294 then some [46] else
  if 65377 ≤ r ∧ r ≤ 65377 then some [46] else
  if 64257 ≤ r ∧ r ≤ 64257 then some [102, 105] else
  if 65285 ≤ r ∧ r ≤ 65285 then some [37] else
  if 65293 ≤ r ∧ r ≤ 65293 then some [45] else
  if 65295 ≤ r ∧ r ≤ 65295 then some [47] else
  if 65296 ≤ r ∧ r ≤ 65305 then some [wrap32 (r - 65248)] else
  if 65345 ≤ r ∧ r ≤ 65370 then some [wrap32 (r - 65248)] else
  if 65313 ≤ r ∧ r ≤ 65338 then some [wrap32 (r - 65216)] else
  if 66560 ≤ r ∧ r ≤ 66599 then some [wrap32 (r + 40)] else
  none
theorem unidata_to.calls (r : Int) (l : List Int) (w : World) (h : unidata_to.f r = some l) :
    Calls Try.prog 25 #[.int .i32 r] w fun e w' => ∃ v0_ : Value, e = .returned (v0_) ∧ Kd.R (Kd.int .i32) 21 w' w.heap.size (fun _ => True) v0_ l ∧ Below w.heap.size w w' := by
  unfold unidata_to.f at h
  by_cases c : 65 ≤ r ∧ r ≤ 90
  · rw [if_pos c] at h; obtain rfl := Option.some.inj h; exact to_0 r w c.1 c.2
  rw [if_neg c] at h; clear c
  by_cases c : 192 ≤ r ∧ r ≤ 214
  · rw [if_pos c] at h; obtain rfl := Option.some.inj h; exact to_1 r w c.1 c.2
  rw [if_neg c] at h; clear c
  by_cases c : 216 ≤ r ∧ r ≤ 222
  · rw [if_pos c] at h; obtain rfl := Option.some.inj h; exact to_2 r w c.1 c.2
  rw [if_neg c] at h; clear c
  by_cases c : 913 ≤ r ∧ r ≤ 929
  · rw [if_pos c] at h; obtain rfl := Option.some.inj h; exact to_3 r w c.1 c.2
  rw [if_neg c] at h; clear c
  by_cases c : 931 ≤ r ∧ r ≤ 937
  · rw [if_pos c] at h; obtain rfl := Option.some.inj h; exact to_4 r w c.1 c.2
  rw [if_neg c] at h; clear c
  by_cases c : 1040 ≤ r ∧ r ≤ 1071
  · rw [if_pos c] at h; obtain rfl := Option.some.inj h; exact to_5 r w c.1 c.2
  rw [if_neg c] at h; clear c
  by_cases c : 170 ≤ r ∧ r ≤ 170
  · rw [if_pos c] at h; obtain rfl := Option.some.inj h; exact to_6 r w c.1 c.2
  rw [if_neg c] at h; clear c
  by_cases c : 178 ≤ r ∧ r ≤ 179
  · rw [if_pos c] at h; obtain rfl := Option.some.inj h; exact to_7 r w c.1 c.2
  rw [if_neg c] at h; clear c
  by_cases c : 185 ≤ r ∧ r ≤ 185
  · rw [if_pos c] at h; obtain rfl := Option.some.inj h; exact to_8 r w c.1 c.2
  rw [if_neg c] at h; clear c
  by_cases c : 186 ≤ r ∧ r ≤ 186
  · rw [if_pos c] at h; obtain rfl := Option.some.inj h; exact to_9 r w c.1 c.2
  rw [if_neg c] at h; clear c
  by_cases c : 376 ≤ r ∧ r ≤ 376
  · rw [if_pos c] at h; obtain rfl := Option.some.inj h; exact to_10 r w c.1 c.2
  rw [if_neg c] at h; clear c
  by_cases c : 469 ≤ r ∧ r ≤ 469
  · rw [if_pos c] at h; obtain rfl := Option.some.inj h; exact to_11 r w c.1 c.2
  rw [if_neg c] at h; clear c
  by_cases c : 902 ≤ r ∧ r ≤ 902
  · rw [if_pos c] at h; obtain rfl := Option.some.inj h; exact to_12 r w c.1 c.2
  rw [if_neg c] at h; clear c
  by_cases c : 904 ≤ r ∧ r ≤ 906
  · rw [if_pos c] at h; obtain rfl := Option.some.inj h; exact to_13 r w c.1 c.2
  rw [if_neg c] at h; clear c
  by_cases c : 908 ≤ r ∧ r ≤ 908
  · rw [if_pos c] at h; obtain rfl := Option.some.inj h; exact to_14 r w c.1 c.2
  rw [if_neg c] at h; clear c
  by_cases c : 910 ≤ r ∧ r ≤ 911
  · rw [if_pos c] at h; obtain rfl := Option.some.inj h; exact to_15 r w c.1 c.2
  rw [if_neg c] at h; clear c
  by_cases c : 1025 ≤ r ∧ r ≤ 1025
  · rw [if_pos c] at h; obtain rfl := Option.some.inj h; exact to_16 r w c.1 c.2
  rw [if_neg c] at h; clear c
  by_cases c : 1029 ≤ r ∧ r ≤ 1030
  · rw [if_pos c] at h; obtain rfl := Option.some.inj h; exact to_17 r w c.1 c.2
  rw [if_neg c] at h; clear c
  by_cases c : 1032 ≤ r ∧ r ≤ 1032
  · rw [if_pos c] at h; obtain rfl := Option.some.inj h; exact to_18 r w c.1 c.2
  rw [if_neg c] at h; clear c
  by_cases c : 7776 ≤ r ∧ r ≤ 7776
  · rw [if_pos c] at h; obtain rfl := Option.some.inj h; exact to_19 r w c.1 c.2
  rw [if_neg c] at h; clear c
  by_cases c : 7778 ≤ r ∧ r ≤ 7778
  · rw [if_pos c] at h; obtain rfl := Option.some.inj h; exact to_20 r w c.1 c.2
  rw [if_neg c] at h; clear c
  by_cases c : 7784 ≤ r ∧ r ≤ 7784
  · rw [if_pos c] at h; obtain rfl := Option.some.inj h; exact to_21 r w c.1 c.2
  rw [if_neg c] at h; clear c
  by_cases c : 7838 ≤ r ∧ r ≤ 7838
  · rw [if_pos c] at h; obtain rfl := Option.some.inj h; exact to_22 r w c.1 c.2
  rw [if_neg c] at h; clear c
  by_cases c : 8486 ≤ r ∧ r ≤ 8486
  · rw [if_pos c] at h; obtain rfl := Option.some.inj h; exact to_23 r w c.1 c.2
  rw [if_neg c] at h; clear c
  by_cases c : 8490 ≤ r ∧ r ≤ 8490
  · rw [if_pos c] at h; obtain rfl := Option.some.inj h; exact to_24 r w c.1 c.2
  rw [if_neg c] at h; clear c
  by_cases c : 8491 ≤ r ∧ r ≤ 8491
  · rw [if_pos c] at h; obtain rfl := Option.some.inj h; exact to_25 r w c.1 c.2
  rw [if_neg c] at h; clear c
  by_cases c : 12290 ≤ r ∧ r ≤ 12290
  · rw [if_pos c] at h; obtain rfl := Option.some.inj h; exact to_26 r w c.1 c.2
  rw [if_neg c] at h; clear c
  by_cases c : 65294 ≤ r ∧ r ≤ 65294
  · rw [if_pos c] at h; obtain rfl := Option.some.inj h; exact to_27 r w c.1 c.2
  rw [if_neg c] at h; clear c
  by_cases c : 65377 ≤ r ∧ r ≤ 65377
  · rw [if_pos c] at h; obtain rfl := Option.some.inj h; exact to_28 r w c.1 c.2
  rw [if_neg c] at h; clear c
  by_cases c : 64257 ≤ r ∧ r ≤ 64257
  · rw [if_pos c] at h; obtain rfl := Option.some.inj h; exact to_29 r w c.1 c.2
  rw [if_neg c] at h; clear c
  by_cases c : 65285 ≤ r ∧ r ≤ 65285
  · rw [if_pos c] at h; obtain rfl := Option.some.inj h; exact to_30 r w c.1 c.2
  rw [if_neg c] at h; clear c
  by_cases c : 65293 ≤ r ∧ r ≤ 65293
  · rw [if_pos c] at h; obtain rfl := Option.some.inj h; exact to_31 r w c.1 c.2
  rw [if_neg c] at h; clear c
  by_cases c : 65295 ≤ r ∧ r ≤ 65295
  · rw [if_pos c] at h; obtain rfl := Option.some.inj h; exact to_32 r w c.1 c.2
  rw [if_neg c] at h; clear c
  by_cases c : 65296 ≤ r ∧ r ≤ 65305
  · rw [if_pos c] at h; obtain rfl := Option.some.inj h; exact to_33 r w c.1 c.2
  rw [if_neg c] at h; clear c
  by_cases c : 65345 ≤ r ∧ r ≤ 65370
  · rw [if_pos c] at h; obtain rfl := Option.some.inj h; exact to_34 r w c.1 c.2
  rw [if_neg c] at h; clear c
  by_cases c : 65313 ≤ r ∧ r ≤ 65338
  · rw [if_pos c] at h; obtain rfl := Option.some.inj h; exact to_35 r w c.1 c.2
  rw [if_neg c] at h; clear c
  by_cases c : 66560 ≤ r ∧ r ≤ 66599
  · rw [if_pos c] at h; obtain rfl := Option.some.inj h; exact to_36 r w c.1 c.2
  rw [if_neg c] at h; clear c
  exact absurd h (by simp)
end Go.Proofs.Ytkdhmdmmdbmeaaa.Pr
