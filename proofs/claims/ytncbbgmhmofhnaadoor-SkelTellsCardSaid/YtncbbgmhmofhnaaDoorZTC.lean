import Derived.Test.YtncbbgmhmofhnaaDoorZTB
import Derived.Deep.RegionHeld3
import Derived.Deep.MidRow
section
namespace Go.Proofs.YtncbbgmhmofhnaaDoor.Pr
open Go.RowKit Go.Proofs.YtncbbgmhmofhnaaDoorW.PrintWords Go.Proofs.YtncbbgmhmofhnaaDoorW.PrintLast Go.Proofs.YtncbbgmhmofhnaaDoorW.PrintMore
set_option linter.unusedVariables false
set_option linter.unusedSimpArgs false

theorem reps_flat {α : Type} {R : α → List Value → Prop} {size : Nat} {f : α → List Value} (hR : ∀ x, R x (f x)) (hs : ∀ x, (f x).length = size) : ∀ xs : List α, Reps R size xs (xs.flatMap f)
  | [] => Reps.none _ _
  | x :: xs => by
    have h := reps_flat hR hs xs
    refine ⟨by rw [List.flatMap_cons, List.length_append, h.1, hs, List.length_cons, Nat.add_mul, Nat.one_mul, Nat.add_comm], fun j p hp => ?_⟩
    rw [List.flatMap_cons]
    cases j with
    | zero =>
      obtain rfl : x = p := by simpa using hp
      rw [Nat.zero_mul, List.drop_zero, List.take_append_of_le_length (Nat.le_of_eq (hs x).symm), List.take_of_length_le (Nat.le_of_eq (hs x))]
      exact hR x
    | succ j =>
      rw [Nat.add_mul, Nat.one_mul, Nat.add_comm, ← List.drop_drop, List.drop_append_of_le_length (Nat.le_of_eq (hs x).symm), List.drop_of_length_le (Nat.le_of_eq (hs x)), List.nil_append]
      exact h.2 j p (by simpa using hp)
theorem lit_R {α : Type} (d : Kd α) {f : α → List Value} (hM : ∀ (w : World) (base : Nat) (ok : Nat → Prop) (x : α), d.M w base ok x (f x)) (hs : ∀ x, (f x).length = d.sz) (xs : List α) (hm : xs.length ≤ 9223372036854775807) (e : Nat) (w : World) :
    Kd.R d e (w.alloc (.cells (xs.flatMap f).toArray e)) w.heap.size (fun _ => True) (.slice (some ⟨w.heap.size, 0, none⟩) xs.length xs.length) xs :=
  ⟨fun _ _ => trivial, OwnRow.lit (R := d.M (w.alloc (.cells (xs.flatMap f).toArray e)) w.heap.size (fun k => True ∧ some k ≠ (Value.slice (some ⟨w.heap.size, 0, none⟩) xs.length xs.length).ownBlock)) w w.heap.size (reps_flat (fun x => hM _ _ _ x) hs xs) (Nat.le_refl _) hm⟩

def cells_u (x : S88) : List Value := [.int .i32 x.f0, .int .i32 x.f1, .int .u8 x.f2, .int .u8 x.f3, .int .u8 x.f4, .int .u8 x.f5, .int .u8 x.f6, .bool x.f7]
def cells_p (x : S91) : List Value := [.int .i32 x.f0, .int .i32 x.f1, .int .i32 x.f2]
def cells_r (x : S52) : List Value := [.int .i32 x.f0, .int .i32 x.f1, .int .u8 x.f2, .int .i32 x.f3, .int .i32 x.f4, .int .i32 x.f5, .int .u8 x.f6, .int .u8 x.f7, .int .u8 x.f8, .bool x.f9, .int .u8 x.f10]
theorem cells_r_lit {f : FuncId} {w : World} {xs : List S52} (hm : xs.length ≤ 9223372036854775807) (hc : Calls Tryd.prog f #[] w fun e w' => e = .returned (.slice (some ⟨w.heap.size, 0, none⟩) xs.length xs.length) ∧ w' = w.alloc (.cells (xs.flatMap cells_r).toArray 52)) :
    Calls Tryd.prog f #[] w fun e w' => ∃ v0_ : Value, e = .returned (v0_) ∧ Kd.R k52 52 w' w.heap.size (fun _ => True) v0_ xs ∧ Below w.heap.size w w' :=
  hc.mono fun e w' ⟨he, hw'⟩ => by
    subst hw'
    exact ⟨_, he, lit_R k52 (f := cells_r) (fun w base ok x => k52_mkM w base ok x) (fun _ => rfl) xs hm _ w, (Below.refl _ _).alloc (Nat.le_refl _) _⟩
def cells_a (x : S86) : List Value := [.int .i32 x.f0, .int .i32 x.f1, .int .i32 x.f2]
theorem cells_a_lit {f : FuncId} {w : World} {xs : List S86} (hm : xs.length ≤ 9223372036854775807) (hc : Calls Tryd.prog f #[] w fun e w' => e = .returned (.slice (some ⟨w.heap.size, 0, none⟩) xs.length xs.length) ∧ w' = w.alloc (.cells (xs.flatMap cells_a).toArray 86)) :
    Calls Tryd.prog f #[] w fun e w' => ∃ v0_ : Value, e = .returned (v0_) ∧ Kd.R k86 86 w' w.heap.size (fun _ => True) v0_ xs ∧ Below w.heap.size w w' :=
  hc.mono fun e w' ⟨he, hw'⟩ => by
    subst hw'
    exact ⟨_, he, lit_R k86 (f := cells_a) (fun w base ok x => k86_mkM w base ok x) (fun _ => rfl) xs hm _ w, (Below.refl _ _).alloc (Nat.le_refl _) _⟩
def uT0 : List S88 := [⟨45, 45, 1, 0, 5, 0, 0, false⟩,
  ⟨46, 46, 1, 0, 6, 0, 0, false⟩,
  ⟨48, 57, 1, 0, 4, 0, 0, false⟩,
  ⟨65, 90, 3, 2, 1, 0, 0, false⟩,
  ⟨95, 95, 1, 0, 0, 0, 0, false⟩,
  ⟨97, 122, 1, 2, 1, 0, 0, false⟩,
  ⟨170, 170, 3, 2, 1, 0, 0, false⟩,
  ⟨173, 173, 2, 0, 9, 0, 0, false⟩,
  ⟨178, 179, 3, 0, 4, 0, 0, false⟩,
  ⟨185, 185, 3, 0, 4, 0, 0, false⟩,
  ⟨186, 186, 3, 2, 1, 0, 0, false⟩,
  ⟨192, 214, 3, 2, 1, 0, 0, false⟩,
  ⟨216, 222, 3, 2, 1, 0, 0, false⟩,
  ⟨223, 223, 4, 2, 1, 0, 0, false⟩,
  ⟨224, 246, 1, 2, 1, 0, 0, false⟩,
  ⟨248, 255, 1, 2, 1, 0, 0, false⟩,
  ⟨376, 376, 3, 2, 1, 0, 0, false⟩,
  ⟨469, 469, 3, 2, 1, 0, 0, false⟩,
  ⟨470, 470, 1, 2, 1, 0, 0, false⟩,
  ⟨768, 772, 1, 1, 8, 230, 4, true⟩,
  ⟨774, 776, 1, 1, 8, 230, 4, true⟩,
  ⟨778, 778, 1, 1, 8, 230, 4, true⟩,
  ⟨803, 803, 1, 1, 8, 220, 4, true⟩,
  ⟨807, 808, 1, 1, 8, 202, 4, true⟩,
  ⟨902, 902, 3, 3, 1, 0, 0, false⟩,
  ⟨904, 906, 3, 3, 1, 0, 0, false⟩,
  ⟨908, 908, 3, 3, 1, 0, 0, false⟩,
  ⟨910, 911, 3, 3, 1, 0, 0, false⟩,
  ⟨913, 929, 3, 3, 1, 0, 0, false⟩,
  ⟨931, 937, 3, 3, 1, 0, 0, false⟩]
set_option maxRecDepth 100000 in
theorem unidata_rows0.run (w : World) : Calls Tryd.prog 81 #[] w fun e w' => e = .returned (.slice (some ⟨w.heap.size, 0, none⟩) uT0.length uT0.length) ∧ w' = w.alloc (.cells (uT0.flatMap cells_u).toArray 88) :=
  lit_calls Tryd.func81 rfl rfl (fun g => by kernel_rfl) w
def uT1 : List S88 := [⟨940, 943, 1, 3, 1, 0, 0, false⟩,
  ⟨945, 961, 1, 3, 1, 0, 0, false⟩,
  ⟨962, 962, 4, 3, 1, 0, 0, false⟩,
  ⟨963, 969, 1, 3, 1, 0, 0, false⟩,
  ⟨972, 974, 1, 3, 1, 0, 0, false⟩,
  ⟨1025, 1025, 3, 4, 1, 0, 0, false⟩,
  ⟨1029, 1030, 3, 4, 1, 0, 0, false⟩,
  ⟨1032, 1032, 3, 4, 1, 0, 0, false⟩,
  ⟨1040, 1071, 3, 4, 1, 0, 0, false⟩,
  ⟨1072, 1103, 1, 4, 1, 0, 0, false⟩,
  ⟨1105, 1105, 1, 4, 1, 0, 0, false⟩,
  ⟨1109, 1110, 1, 4, 1, 0, 0, false⟩,
  ⟨1112, 1112, 1, 4, 1, 0, 0, false⟩,
  ⟨1488, 1514, 1, 5, 2, 0, 0, false⟩,
  ⟨1575, 1575, 1, 6, 3, 0, 2, false⟩,
  ⟨1576, 1576, 1, 6, 3, 0, 3, false⟩,
  ⟨1578, 1578, 1, 6, 3, 0, 3, false⟩,
  ⟨1583, 1583, 1, 6, 3, 0, 2, false⟩,
  ⟨1587, 1587, 1, 6, 3, 0, 3, false⟩,
  ⟨1604, 1606, 1, 6, 3, 0, 3, false⟩,
  ⟨1608, 1608, 1, 6, 3, 0, 2, false⟩,
  ⟨1610, 1610, 1, 6, 3, 0, 3, false⟩,
  ⟨1611, 1611, 1, 1, 8, 27, 4, true⟩,
  ⟨1632, 1641, 1, 6, 7, 0, 0, false⟩,
  ⟨1776, 1785, 1, 6, 4, 0, 0, false⟩,
  ⟨2325, 2361, 1, 7, 1, 0, 0, false⟩,
  ⟨2367, 2367, 1, 7, 1, 0, 0, true⟩,
  ⟨2381, 2381, 1, 7, 8, 9, 4, true⟩,
  ⟨7776, 7776, 3, 2, 1, 0, 0, false⟩,
  ⟨7777, 7777, 1, 2, 1, 0, 0, false⟩]
set_option maxRecDepth 100000 in
theorem unidata_rows1.run (w : World) : Calls Tryd.prog 82 #[] w fun e w' => e = .returned (.slice (some ⟨w.heap.size, 0, none⟩) uT1.length uT1.length) ∧ w' = w.alloc (.cells (uT1.flatMap cells_u).toArray 88) :=
  lit_calls Tryd.func82 rfl rfl (fun g => by kernel_rfl) w
def uT2 : List S88 := [⟨7778, 7778, 3, 2, 1, 0, 0, false⟩,
  ⟨7779, 7779, 1, 2, 1, 0, 0, false⟩,
  ⟨7784, 7784, 3, 2, 1, 0, 0, false⟩,
  ⟨7785, 7785, 1, 2, 1, 0, 0, false⟩,
  ⟨7838, 7838, 3, 2, 1, 0, 0, false⟩,
  ⟨8204, 8204, 4, 1, 9, 0, 0, false⟩,
  ⟨8205, 8205, 4, 1, 9, 0, 5, false⟩,
  ⟨8486, 8486, 3, 3, 1, 0, 0, false⟩,
  ⟨8490, 8490, 3, 2, 1, 0, 0, false⟩,
  ⟨8491, 8491, 3, 2, 1, 0, 0, false⟩,
  ⟨9731, 9731, 1, 0, 0, 0, 0, false⟩,
  ⟨12290, 12290, 3, 0, 0, 0, 0, false⟩,
  ⟨12353, 12438, 1, 8, 1, 0, 0, false⟩,
  ⟨12449, 12538, 1, 9, 1, 0, 0, false⟩,
  ⟨12540, 12540, 1, 0, 1, 0, 0, false⟩,
  ⟨19968, 20108, 1, 10, 1, 0, 0, false⟩,
  ⟨64257, 64257, 3, 2, 1, 0, 0, false⟩,
  ⟨65285, 65285, 3, 0, 0, 0, 0, false⟩,
  ⟨65293, 65293, 3, 0, 5, 0, 0, false⟩,
  ⟨65294, 65294, 3, 0, 6, 0, 0, false⟩,
  ⟨65295, 65295, 3, 0, 6, 0, 0, false⟩,
  ⟨65296, 65305, 3, 0, 4, 0, 0, false⟩,
  ⟨65313, 65338, 3, 2, 1, 0, 0, false⟩,
  ⟨65345, 65370, 3, 2, 1, 0, 0, false⟩,
  ⟨65377, 65377, 3, 0, 0, 0, 0, false⟩,
  ⟨66560, 66599, 3, 11, 1, 0, 0, false⟩,
  ⟨66600, 66639, 1, 11, 1, 0, 0, false⟩,
  ⟨128512, 128512, 1, 0, 0, 0, 0, false⟩]
set_option maxRecDepth 100000 in
theorem unidata_rows2.run (w : World) : Calls Tryd.prog 83 #[] w fun e w' => e = .returned (.slice (some ⟨w.heap.size, 0, none⟩) uT2.length uT2.length) ∧ w' = w.alloc (.cells (uT2.flatMap cells_u).toArray 88) :=
  lit_calls Tryd.func83 rfl rfl (fun g => by kernel_rfl) w
def uP0 : List S91 := [⟨192, 65, 768⟩,
  ⟨193, 65, 769⟩,
  ⟨194, 65, 770⟩,
  ⟨195, 65, 771⟩,
  ⟨196, 65, 776⟩,
  ⟨197, 65, 778⟩,
  ⟨199, 67, 807⟩,
  ⟨200, 69, 768⟩,
  ⟨201, 69, 769⟩,
  ⟨202, 69, 770⟩,
  ⟨203, 69, 776⟩,
  ⟨204, 73, 768⟩,
  ⟨205, 73, 769⟩,
  ⟨206, 73, 770⟩,
  ⟨207, 73, 776⟩,
  ⟨209, 78, 771⟩,
  ⟨210, 79, 768⟩,
  ⟨211, 79, 769⟩,
  ⟨212, 79, 770⟩,
  ⟨213, 79, 771⟩,
  ⟨214, 79, 776⟩,
  ⟨217, 85, 768⟩,
  ⟨218, 85, 769⟩,
  ⟨219, 85, 770⟩,
  ⟨220, 85, 776⟩,
  ⟨221, 89, 769⟩,
  ⟨224, 97, 768⟩,
  ⟨225, 97, 769⟩,
  ⟨226, 97, 770⟩,
  ⟨227, 97, 771⟩,
  ⟨228, 97, 776⟩,
  ⟨229, 97, 778⟩,
  ⟨231, 99, 807⟩,
  ⟨232, 101, 768⟩,
  ⟨233, 101, 769⟩,
  ⟨234, 101, 770⟩,
  ⟨235, 101, 776⟩,
  ⟨236, 105, 768⟩,
  ⟨237, 105, 769⟩,
  ⟨238, 105, 770⟩]
set_option maxRecDepth 100000 in
theorem unidata_pairs0.run (w : World) : Calls Tryd.prog 86 #[] w fun e w' => e = .returned (.slice (some ⟨w.heap.size, 0, none⟩) uP0.length uP0.length) ∧ w' = w.alloc (.cells (uP0.flatMap cells_p).toArray 91) :=
  lit_calls Tryd.func86 rfl rfl (fun g => by kernel_rfl) w
def uP1 : List S91 := [⟨239, 105, 776⟩,
  ⟨241, 110, 771⟩,
  ⟨242, 111, 768⟩,
  ⟨243, 111, 769⟩,
  ⟨244, 111, 770⟩,
  ⟨245, 111, 771⟩,
  ⟨246, 111, 776⟩,
  ⟨249, 117, 768⟩,
  ⟨250, 117, 769⟩,
  ⟨251, 117, 770⟩,
  ⟨252, 117, 776⟩,
  ⟨253, 121, 769⟩,
  ⟨255, 121, 776⟩,
  ⟨376, 89, 776⟩,
  ⟨469, 220, 772⟩,
  ⟨470, 252, 772⟩,
  ⟨902, 913, 769⟩,
  ⟨904, 917, 769⟩,
  ⟨905, 919, 769⟩,
  ⟨906, 921, 769⟩,
  ⟨908, 927, 769⟩,
  ⟨910, 933, 769⟩,
  ⟨911, 937, 769⟩,
  ⟨940, 945, 769⟩,
  ⟨941, 949, 769⟩,
  ⟨942, 951, 769⟩,
  ⟨943, 953, 769⟩,
  ⟨972, 959, 769⟩,
  ⟨973, 965, 769⟩,
  ⟨974, 969, 769⟩,
  ⟨1025, 1045, 776⟩,
  ⟨1049, 1048, 774⟩,
  ⟨1081, 1080, 774⟩,
  ⟨1105, 1077, 776⟩,
  ⟨7776, 83, 775⟩,
  ⟨7777, 115, 775⟩,
  ⟨7778, 83, 803⟩,
  ⟨7779, 115, 803⟩,
  ⟨7784, 7778, 775⟩,
  ⟨7785, 7779, 775⟩]
set_option maxRecDepth 100000 in
theorem unidata_pairs1.run (w : World) : Calls Tryd.prog 87 #[] w fun e w' => e = .returned (.slice (some ⟨w.heap.size, 0, none⟩) uP1.length uP1.length) ∧ w' = w.alloc (.cells (uP1.flatMap cells_p).toArray 91) :=
  lit_calls Tryd.func87 rfl rfl (fun g => by kernel_rfl) w
def rT0 : List S52 := [⟨45, 45, 1, 0, 0, 0, 0, 5, 0, false, 0⟩,
  ⟨46, 46, 1, 0, 0, 0, 0, 6, 0, false, 0⟩,
  ⟨48, 57, 1, 0, 0, 0, 0, 4, 0, false, 0⟩,
  ⟨65, 90, 3, 32, 0, 0, 2, 1, 0, false, 0⟩,
  ⟨95, 95, 1, 0, 0, 0, 0, 0, 0, false, 0⟩,
  ⟨97, 122, 1, 0, 0, 0, 2, 1, 0, false, 0⟩,
  ⟨170, 170, 3, 0, 97, 0, 2, 1, 0, false, 0⟩,
  ⟨173, 173, 2, 0, 0, 0, 0, 9, 0, false, 0⟩,
  ⟨178, 179, 3, -128, 0, 0, 0, 4, 0, false, 0⟩,
  ⟨185, 185, 3, 0, 49, 0, 0, 4, 0, false, 0⟩,
  ⟨186, 186, 3, 0, 111, 0, 2, 1, 0, false, 0⟩,
  ⟨192, 214, 3, 32, 0, 0, 2, 1, 0, false, 0⟩,
  ⟨216, 222, 3, 32, 0, 0, 2, 1, 0, false, 0⟩,
  ⟨223, 223, 4, 0, 0, 0, 2, 1, 0, false, 0⟩,
  ⟨224, 246, 1, 0, 0, 0, 2, 1, 0, false, 0⟩,
  ⟨248, 255, 1, 0, 0, 0, 2, 1, 0, false, 0⟩,
  ⟨376, 376, 3, 0, 255, 0, 2, 1, 0, false, 0⟩,
  ⟨469, 469, 3, 0, 470, 0, 2, 1, 0, false, 0⟩,
  ⟨470, 470, 1, 0, 0, 0, 2, 1, 0, false, 0⟩,
  ⟨768, 772, 1, 0, 0, 0, 1, 8, 230, true, 4⟩,
  ⟨774, 776, 1, 0, 0, 0, 1, 8, 230, true, 4⟩,
  ⟨778, 778, 1, 0, 0, 0, 1, 8, 230, true, 4⟩,
  ⟨803, 803, 1, 0, 0, 0, 1, 8, 220, true, 4⟩,
  ⟨807, 808, 1, 0, 0, 0, 1, 8, 202, true, 4⟩,
  ⟨902, 902, 3, 0, 940, 0, 3, 1, 0, false, 0⟩,
  ⟨904, 906, 3, 37, 0, 0, 3, 1, 0, false, 0⟩,
  ⟨908, 908, 3, 0, 972, 0, 3, 1, 0, false, 0⟩,
  ⟨910, 911, 3, 63, 0, 0, 3, 1, 0, false, 0⟩,
  ⟨913, 929, 3, 32, 0, 0, 3, 1, 0, false, 0⟩,
  ⟨931, 937, 3, 32, 0, 0, 3, 1, 0, false, 0⟩]
def portcullisref03_rows0.f : Option (List (S52)) := some rT0
set_option maxRecDepth 100000 in
theorem portcullisref03_rows0.run (w : World) : Calls Tryd.prog 70 #[] w fun e w' => e = .returned (.slice (some ⟨w.heap.size, 0, none⟩) rT0.length rT0.length) ∧ w' = w.alloc (.cells (rT0.flatMap cells_r).toArray 52) :=
  lit_calls Tryd.func70 rfl rfl (fun g => by kernel_rfl) w
theorem portcullisref03_rows0.calls (r : List (S52)) (w : World) (h : portcullisref03_rows0.f = some r) :
    Calls Tryd.prog 70 #[] w fun e w' => ∃ v0_ : Value, e = .returned (v0_) ∧ Kd.R k52 52 w' w.heap.size (fun _ => True) v0_ r ∧ Below w.heap.size w w' := by
  obtain rfl : rT0 = r := Option.some.inj h
  exact cells_r_lit (by decide) (portcullisref03_rows0.run w)
def rT1 : List S52 := [⟨940, 943, 1, 0, 0, 0, 3, 1, 0, false, 0⟩,
  ⟨945, 961, 1, 0, 0, 0, 3, 1, 0, false, 0⟩,
  ⟨962, 962, 4, 0, 0, 0, 3, 1, 0, false, 0⟩,
  ⟨963, 969, 1, 0, 0, 0, 3, 1, 0, false, 0⟩,
  ⟨972, 974, 1, 0, 0, 0, 3, 1, 0, false, 0⟩,
  ⟨1025, 1025, 3, 0, 1105, 0, 4, 1, 0, false, 0⟩,
  ⟨1029, 1030, 3, 80, 0, 0, 4, 1, 0, false, 0⟩,
  ⟨1032, 1032, 3, 0, 1112, 0, 4, 1, 0, false, 0⟩,
  ⟨1040, 1071, 3, 32, 0, 0, 4, 1, 0, false, 0⟩,
  ⟨1072, 1103, 1, 0, 0, 0, 4, 1, 0, false, 0⟩,
  ⟨1105, 1105, 1, 0, 0, 0, 4, 1, 0, false, 0⟩,
  ⟨1109, 1110, 1, 0, 0, 0, 4, 1, 0, false, 0⟩,
  ⟨1112, 1112, 1, 0, 0, 0, 4, 1, 0, false, 0⟩,
  ⟨1488, 1514, 1, 0, 0, 0, 5, 2, 0, false, 0⟩,
  ⟨1575, 1575, 1, 0, 0, 0, 6, 3, 0, false, 2⟩,
  ⟨1576, 1576, 1, 0, 0, 0, 6, 3, 0, false, 3⟩,
  ⟨1578, 1578, 1, 0, 0, 0, 6, 3, 0, false, 3⟩,
  ⟨1583, 1583, 1, 0, 0, 0, 6, 3, 0, false, 2⟩,
  ⟨1587, 1587, 1, 0, 0, 0, 6, 3, 0, false, 3⟩,
  ⟨1604, 1606, 1, 0, 0, 0, 6, 3, 0, false, 3⟩,
  ⟨1608, 1608, 1, 0, 0, 0, 6, 3, 0, false, 2⟩,
  ⟨1610, 1610, 1, 0, 0, 0, 6, 3, 0, false, 3⟩,
  ⟨1611, 1611, 1, 0, 0, 0, 1, 8, 27, true, 4⟩,
  ⟨1632, 1641, 1, 0, 0, 0, 6, 7, 0, false, 0⟩,
  ⟨1776, 1785, 1, 0, 0, 0, 6, 4, 0, false, 0⟩,
  ⟨2325, 2361, 1, 0, 0, 0, 7, 1, 0, false, 0⟩,
  ⟨2367, 2367, 1, 0, 0, 0, 7, 1, 0, true, 0⟩,
  ⟨2381, 2381, 1, 0, 0, 0, 7, 8, 9, true, 4⟩,
  ⟨7776, 7776, 3, 0, 7777, 0, 2, 1, 0, false, 0⟩,
  ⟨7777, 7777, 1, 0, 0, 0, 2, 1, 0, false, 0⟩]
def portcullisref03_rows1.f : Option (List (S52)) := some rT1
set_option maxRecDepth 100000 in
theorem portcullisref03_rows1.run (w : World) : Calls Tryd.prog 71 #[] w fun e w' => e = .returned (.slice (some ⟨w.heap.size, 0, none⟩) rT1.length rT1.length) ∧ w' = w.alloc (.cells (rT1.flatMap cells_r).toArray 52) :=
  lit_calls Tryd.func71 rfl rfl (fun g => by kernel_rfl) w
theorem portcullisref03_rows1.calls (r : List (S52)) (w : World) (h : portcullisref03_rows1.f = some r) :
    Calls Tryd.prog 71 #[] w fun e w' => ∃ v0_ : Value, e = .returned (v0_) ∧ Kd.R k52 52 w' w.heap.size (fun _ => True) v0_ r ∧ Below w.heap.size w w' := by
  obtain rfl : rT1 = r := Option.some.inj h
  exact cells_r_lit (by decide) (portcullisref03_rows1.run w)
def rT2 : List S52 := [⟨7778, 7778, 3, 0, 7779, 0, 2, 1, 0, false, 0⟩,
  ⟨7779, 7779, 1, 0, 0, 0, 2, 1, 0, false, 0⟩,
  ⟨7784, 7784, 3, 0, 7785, 0, 2, 1, 0, false, 0⟩,
  ⟨7785, 7785, 1, 0, 0, 0, 2, 1, 0, false, 0⟩,
  ⟨7838, 7838, 3, 0, 115, 115, 2, 1, 0, false, 0⟩,
  ⟨8204, 8204, 4, 0, 0, 0, 1, 9, 0, false, 0⟩,
  ⟨8205, 8205, 4, 0, 0, 0, 1, 9, 0, false, 5⟩,
  ⟨8486, 8486, 3, 0, 969, 0, 3, 1, 0, false, 0⟩,
  ⟨8490, 8490, 3, 0, 107, 0, 2, 1, 0, false, 0⟩,
  ⟨8491, 8491, 3, 0, 229, 0, 2, 1, 0, false, 0⟩,
  ⟨9731, 9731, 1, 0, 0, 0, 0, 0, 0, false, 0⟩,
  ⟨12290, 12290, 3, 0, 46, 0, 0, 0, 0, false, 0⟩,
  ⟨12353, 12438, 1, 0, 0, 0, 8, 1, 0, false, 0⟩,
  ⟨12449, 12538, 1, 0, 0, 0, 9, 1, 0, false, 0⟩,
  ⟨12540, 12540, 1, 0, 0, 0, 0, 1, 0, false, 0⟩,
  ⟨19968, 20108, 1, 0, 0, 0, 10, 1, 0, false, 0⟩,
  ⟨64257, 64257, 3, 0, 102, 105, 2, 1, 0, false, 0⟩,
  ⟨65285, 65285, 3, 0, 37, 0, 0, 0, 0, false, 0⟩,
  ⟨65293, 65293, 3, 0, 45, 0, 0, 5, 0, false, 0⟩,
  ⟨65294, 65294, 3, 0, 46, 0, 0, 6, 0, false, 0⟩,
  ⟨65295, 65295, 3, 0, 47, 0, 0, 6, 0, false, 0⟩,
  ⟨65296, 65305, 3, -65248, 0, 0, 0, 4, 0, false, 0⟩,
  ⟨65313, 65338, 3, -65216, 0, 0, 2, 1, 0, false, 0⟩,
  ⟨65345, 65370, 3, -65248, 0, 0, 2, 1, 0, false, 0⟩,
  ⟨65377, 65377, 3, 0, 46, 0, 0, 0, 0, false, 0⟩,
  ⟨66560, 66599, 3, 40, 0, 0, 11, 1, 0, false, 0⟩,
  ⟨66600, 66639, 1, 0, 0, 0, 11, 1, 0, false, 0⟩,
  ⟨128512, 128512, 1, 0, 0, 0, 0, 0, 0, false, 0⟩]
def portcullisref03_rows2.f : Option (List (S52)) := some rT2
set_option maxRecDepth 100000 in
theorem portcullisref03_rows2.run (w : World) : Calls Tryd.prog 72 #[] w fun e w' => e = .returned (.slice (some ⟨w.heap.size, 0, none⟩) rT2.length rT2.length) ∧ w' = w.alloc (.cells (rT2.flatMap cells_r).toArray 52) :=
  lit_calls Tryd.func72 rfl rfl (fun g => by kernel_rfl) w
theorem portcullisref03_rows2.calls (r : List (S52)) (w : World) (h : portcullisref03_rows2.f = some r) :
    Calls Tryd.prog 72 #[] w fun e w' => ∃ v0_ : Value, e = .returned (v0_) ∧ Kd.R k52 52 w' w.heap.size (fun _ => True) v0_ r ∧ Below w.heap.size w w' := by
  obtain rfl : rT2 = r := Option.some.inj h
  exact cells_r_lit (by decide) (portcullisref03_rows2.run w)
def rP0 : List S86 := [⟨192, 65, 768⟩,
  ⟨193, 65, 769⟩,
  ⟨194, 65, 770⟩,
  ⟨195, 65, 771⟩,
  ⟨196, 65, 776⟩,
  ⟨197, 65, 778⟩,
  ⟨199, 67, 807⟩,
  ⟨200, 69, 768⟩,
  ⟨201, 69, 769⟩,
  ⟨202, 69, 770⟩,
  ⟨203, 69, 776⟩,
  ⟨204, 73, 768⟩,
  ⟨205, 73, 769⟩,
  ⟨206, 73, 770⟩,
  ⟨207, 73, 776⟩,
  ⟨209, 78, 771⟩,
  ⟨210, 79, 768⟩,
  ⟨211, 79, 769⟩,
  ⟨212, 79, 770⟩,
  ⟨213, 79, 771⟩,
  ⟨214, 79, 776⟩,
  ⟨217, 85, 768⟩,
  ⟨218, 85, 769⟩,
  ⟨219, 85, 770⟩,
  ⟨220, 85, 776⟩,
  ⟨221, 89, 769⟩,
  ⟨224, 97, 768⟩,
  ⟨225, 97, 769⟩,
  ⟨226, 97, 770⟩,
  ⟨227, 97, 771⟩,
  ⟨228, 97, 776⟩,
  ⟨229, 97, 778⟩,
  ⟨231, 99, 807⟩,
  ⟨232, 101, 768⟩,
  ⟨233, 101, 769⟩,
  ⟨234, 101, 770⟩,
  ⟨235, 101, 776⟩,
  ⟨236, 105, 768⟩,
  ⟨237, 105, 769⟩,
  ⟨238, 105, 770⟩]
def portcullisref03_pairs0.f : Option (List (S86)) := some rP0
set_option maxRecDepth 100000 in
theorem portcullisref03_pairs0.run (w : World) : Calls Tryd.prog 79 #[] w fun e w' => e = .returned (.slice (some ⟨w.heap.size, 0, none⟩) rP0.length rP0.length) ∧ w' = w.alloc (.cells (rP0.flatMap cells_a).toArray 86) :=
  lit_calls Tryd.func79 rfl rfl (fun g => by kernel_rfl) w
theorem portcullisref03_pairs0.calls (r : List (S86)) (w : World) (h : portcullisref03_pairs0.f = some r) :
    Calls Tryd.prog 79 #[] w fun e w' => ∃ v0_ : Value, e = .returned (v0_) ∧ Kd.R k86 86 w' w.heap.size (fun _ => True) v0_ r ∧ Below w.heap.size w w' := by
  obtain rfl : rP0 = r := Option.some.inj h
  exact cells_a_lit (by decide) (portcullisref03_pairs0.run w)
def rP1 : List S86 := [⟨239, 105, 776⟩,
  ⟨241, 110, 771⟩,
  ⟨242, 111, 768⟩,
  ⟨243, 111, 769⟩,
  ⟨244, 111, 770⟩,
  ⟨245, 111, 771⟩,
  ⟨246, 111, 776⟩,
  ⟨249, 117, 768⟩,
  ⟨250, 117, 769⟩,
  ⟨251, 117, 770⟩,
  ⟨252, 117, 776⟩,
  ⟨253, 121, 769⟩,
  ⟨255, 121, 776⟩,
  ⟨376, 89, 776⟩,
  ⟨469, 220, 772⟩,
  ⟨470, 252, 772⟩,
  ⟨902, 913, 769⟩,
  ⟨904, 917, 769⟩,
  ⟨905, 919, 769⟩,
  ⟨906, 921, 769⟩,
  ⟨908, 927, 769⟩,
  ⟨910, 933, 769⟩,
  ⟨911, 937, 769⟩,
  ⟨940, 945, 769⟩,
  ⟨941, 949, 769⟩,
  ⟨942, 951, 769⟩,
  ⟨943, 953, 769⟩,
  ⟨972, 959, 769⟩,
  ⟨973, 965, 769⟩,
  ⟨974, 969, 769⟩,
  ⟨1025, 1045, 776⟩,
  ⟨1049, 1048, 774⟩,
  ⟨1081, 1080, 774⟩,
  ⟨1105, 1077, 776⟩,
  ⟨7776, 83, 775⟩,
  ⟨7777, 115, 775⟩,
  ⟨7778, 83, 803⟩,
  ⟨7779, 115, 803⟩,
  ⟨7784, 7778, 775⟩,
  ⟨7785, 7779, 775⟩]
def portcullisref03_pairs1.f : Option (List (S86)) := some rP1
set_option maxRecDepth 100000 in
theorem portcullisref03_pairs1.run (w : World) : Calls Tryd.prog 80 #[] w fun e w' => e = .returned (.slice (some ⟨w.heap.size, 0, none⟩) rP1.length rP1.length) ∧ w' = w.alloc (.cells (rP1.flatMap cells_a).toArray 86) :=
  lit_calls Tryd.func80 rfl rfl (fun g => by kernel_rfl) w
theorem portcullisref03_pairs1.calls (r : List (S86)) (w : World) (h : portcullisref03_pairs1.f = some r) :
    Calls Tryd.prog 80 #[] w fun e w' => ∃ v0_ : Value, e = .returned (v0_) ∧ Kd.R k86 86 w' w.heap.size (fun _ => True) v0_ r ∧ Below w.heap.size w w' := by
  obtain rfl : rP1 = r := Option.some.inj h
  exact cells_a_lit (by decide) (portcullisref03_pairs1.run w)
end Go.Proofs.YtncbbgmhmofhnaaDoor.Pr
end

section
namespace Go.Proofs.YtncbbgmhmofhnaaDoor.Pr
open Go.RowKit Go.Proofs.YtncbbgmhmofhnaaDoorW.PrintWords Go.Proofs.YtncbbgmhmofhnaaDoorW.PrintLast Go.Proofs.YtncbbgmhmofhnaaDoorW.PrintMore
set_option linter.unusedVariables false
set_option linter.unusedSimpArgs false

theorem rangeAt_below {B b o : Nat} {cs : List Value} {w w' : World} (h : w.rangeAt b o cs) (hb : Below B w w') (hB : b < B) : w'.rangeAt b o cs := fun j v hv => (hb.cell (p := ⟨b, o + j, none⟩) hB).trans (h j v hv)
theorem there_below {B b o n : Nat} {w w' : World} (h : w.there b o n) (hb : Below B w w') (hB : b < B) : w'.there b o n := fun j hj => by
  rw [hb.cell (p := ⟨b, o + j, none⟩) hB, hb.frozen (p := ⟨b, o + j, none⟩) hB]; exact h j hj
theorem below_cells {B b : Nat} {a : World} (hb : B ≤ b) : ∀ (vs : List Value) (o : Nat) {w : World}, Below B a w → Below B a (w.setCells b o vs)
  | [], _, _, h => h
  | v :: vs, o, w, h => by
    simp only [World.setCells]
    exact below_cells hb vs (o + 1) (h.setCell (by simpa using hb) v)
theorem size_cells (b : Nat) : ∀ (vs : List Value) (o : Nat) (w : World), (w.setCells b o vs).heap.size = w.heap.size
  | [], _, _ => rfl
  | v :: vs, o, w => by
    simp only [World.setCells]
    rw [size_cells b vs (o + 1)]
    simp
theorem results_cell_mid {fn : Func} {p : Tmp} {ty : TypeId} (h : fn.results = #[.cell p ty]) (tmps : Array Value) (w : World) (g : Nat) (cs : List Value) (d : TypeDesc)
    (hp : tmps.getD p undef = .pointer (some ⟨g, 0, none⟩)) (hc : w.rangeAt g 0 cs)
    (hu : Tryd.prog.underlying ty = some d) (hd : d.isRow = true) (hi : (Tryd.prog.info? ty).map (·.size) = some cs.length) :
    (results fn tmps).run Tryd.prog w = .ok (.agg cs.toArray) w := by
  have hp' : tmps[p]?.getD undef = .pointer (some ⟨g, 0, none⟩) := by simpa using hp
  simp [results, h, hp', asAddr, run_loadVar_mid w g 0 ty cs d hc hu hd hi]
theorem range_new (w : World) (cs : List Value) (e : TypeId) : (w.alloc (.cells cs.toArray e)).rangeAt w.heap.size 0 cs := fun j v hv => by
  rw [cell_of_row _ _ _ _ _ _ (heap_alloc_new w _)]
  simpa using hv
theorem there_new (w : World) (cs : Array Value) (e : TypeId) : (w.alloc (.cells cs e)).there w.heap.size 0 cs.size := fun j hj => by
  rw [cell_of_row _ _ _ _ _ _ (heap_alloc_new w _), frozen_of_row _ _ _ _ _ (heap_alloc_new w _)]
  simp [hj]
theorem range_later {w : World} {b o : Nat} {cs : List Value} (h : w.rangeAt b o cs) (ob : Obj) : (w.alloc ob).rangeAt b o cs := World.rangeAt_alloc h ob
/-- A slice of structs as it lies in a block: element i's cells from i * n on. -/
def RowsAt {α : Type} (f : α → List Value) (n : Nat) (w : World) (g : Nat) (T : List α) : Prop := ∀ i x, T[i]? = some x → w.rangeAt g (i * n) (f x)
theorem RowsAt.below {α : Type} {f : α → List Value} {n g : Nat} {w w' : World} {T : List α} (h : RowsAt f n w g T) {B : Nat} (hb : Below B w w') (hB : g < B) : RowsAt f n w' g T := fun i x hx => rangeAt_below (h i x hx) hb hB
theorem RowsAt.later {α : Type} {f : α → List Value} {n g : Nat} {w : World} {T : List α} (h : RowsAt f n w g T) (ob : Obj) : RowsAt f n (w.alloc ob) g T := fun i x hx => range_later (h i x hx) ob
theorem RowsAt.new {α : Type} {f : α → List Value} {n : Nat} (hf : ∀ x, (f x).length = n) (w : World) (T : List α) (e : TypeId) : RowsAt f n (w.alloc (.cells (T.flatMap f).toArray e)) w.heap.size T := fun i x hx j v hv => by
  have hr := (flat_at hf T i x hx)
  have h0 := range_new w (T.flatMap f) e (i * n + j) v (by
    rw [← hr] at hv
    rw [List.getElem?_take] at hv
    split at hv
    · rwa [List.getElem?_drop] at hv
    · exact absurd hv (by simp))
  rwa [Nat.zero_add] at h0
where flat_at {α : Type} {f : α → List Value} {n : Nat} (hf : ∀ x, (f x).length = n) : ∀ (T : List α) (i : Nat) (x : α), T[i]? = some x → ((T.flatMap f).drop (i * n)).take n = f x
  | [], i, x, h => by simp at h
  | y :: T, 0, x, h => by
    obtain rfl : y = x := by simpa using h
    rw [Nat.zero_mul, List.drop_zero, List.flatMap_cons, List.take_append_of_le_length (Nat.le_of_eq (hf y).symm), List.take_of_length_le (Nat.le_of_eq (hf y))]
  | y :: T, i + 1, x, h => by
    rw [Nat.add_mul, Nat.one_mul, Nat.add_comm, ← List.drop_drop, List.flatMap_cons, List.drop_append_of_le_length (Nat.le_of_eq (hf y).symm), List.drop_of_length_le (Nat.le_of_eq (hf y)), List.nil_append]
    exact flat_at hf T i x (by simpa using h)
end Go.Proofs.YtncbbgmhmofhnaaDoor.Pr
end

section
namespace Go.Proofs.YtncbbgmhmofhnaaDoor.Pr
open Go.RowKit Go.Proofs.YtncbbgmhmofhnaaDoorW.PrintWords Go.Proofs.YtncbbgmhmofhnaaDoorW.PrintLast Go.Proofs.YtncbbgmhmofhnaaDoorW.PrintMore
set_option linter.unusedVariables false
set_option linter.unusedSimpArgs false

theorem info_u : (Tryd.prog.info? 88).map (·.size) = some 8 := by kernel_rfl
/-- What the search's closure answers. -/
def cmpU (x : S88) (r : Int) : Int := if x.f1 < r then -1 else if r < x.f0 then 1 else 0

set_option maxHeartbeats 400000 in
theorem cmp_calls (x : S88) (r : Int) (w : World) :
    Calls Tryd.prog 85 #[.agg (cells_u x).toArray, .int .i32 r] w fun e w' => e = .returned (.int .i64 (cmpU x r)) ∧ Below w.heap.size w w' := by
  unfold cells_u cmpU
  by_cases h1 : x.f1 < r
  · rw [if_pos h1]
    go_enter Tryd.func85, Tryd.ntmps85
    go_wp2
    go_ret
    exact ⟨rfl, (Below.refl _ _).alloc (Nat.le_refl _) _⟩
  · rw [if_neg h1]
    by_cases h2 : r < x.f0
    · rw [if_pos h2]
      go_enter Tryd.func85, Tryd.ntmps85
      go_wp2
      go_ret
      exact ⟨rfl, (Below.refl _ _).alloc (Nat.le_refl _) _⟩
    · rw [if_neg h2]
      go_enter Tryd.func85, Tryd.ntmps85
      go_wp2
      go_ret
      exact ⟨rfl, (Below.refl _ _).alloc (Nat.le_refl _) _⟩

/-- Where the search ends. -/
def Ends (T : List S88) (r : Int) (i : Nat) : Prop := i ≤ T.length ∧ (∀ m x, m < i → T[m]? = some x → cmpU x r < 0) ∧ (∀ m x, i ≤ m → T[m]? = some x → 0 ≤ cmpU x r)
def foundU (T : List S88) (r : Int) (i : Nat) : Bool := match T[i]? with | some x => cmpU x r == 0 | none => false
def Mono (T : List S88) (r : Int) : Prop := ∀ (a b : Nat) (x y : S88), a ≤ b → T[a]? = some x → T[b]? = some y → cmpU y r < 0 → cmpU x r < 0
/-- What the search answers: behind a name. -/
def Searched (T : List S88) (r : Int) (w : World) (e : Ending) (w' : World) : Prop := ∃ i : Nat, Ends T r i ∧ e = .returned (.tuple #[.int .i64 i, .bool (foundU T r i)]) ∧ Below w.heap.size w w'

structure SInv (T : List S88) (r : Int) (w wr : World) (a b : Nat) : Prop where
  le : a ≤ b
  top : b ≤ T.length
  lo : ∀ m x, m < a → T[m]? = some x → cmpU x r < 0
  hi : ∀ m x, b ≤ m → T[m]? = some x → 0 ≤ cmpU x r
  bel : Below w.heap.size w wr
theorem SInv.up {T : List S88} {r : Int} {w wr w1 : World} {a b h : Nat} {x : S88} (I : SInv T r w wr a b) (hm : Mono T r) (h2 : h < b) (hx : T[h]? = some x) (hc : cmpU x r < 0) (hb : Below wr.heap.size wr w1) : SInv T r w w1 (h + 1) b :=
  ⟨by omega, I.top, fun m y hmh hy => hm m h y x (by omega) hy hx hc, I.hi, below_then I.bel I.bel.size hb⟩
theorem SInv.down {T : List S88} {r : Int} {w wr w1 : World} {a b h : Nat} {x : S88} (I : SInv T r w wr a b) (hm : Mono T r) (h1 : a ≤ h) (h2 : h < b) (hx : T[h]? = some x) (hc : ¬ cmpU x r < 0) (hb : Below wr.heap.size wr w1) : SInv T r w w1 a h :=
  ⟨h1, by have := I.top; omega, I.lo, fun m y hmh hy => by
    by_cases e : cmpU y r < 0
    · exact absurd (hm h m x y hmh hx hy e) hc
    · omega, below_then I.bel I.bel.size hb⟩
theorem row_size (x : S88) : (Tryd.prog.info? 88).map (·.size) = some (cells_u x).length := info_u

set_option maxHeartbeats 1000000 in
theorem search_calls (T : List S88) (g c : Nat) (r : Int) (w : World) (hT : RowsAt cells_u 8 w g T) (hg : g < w.heap.size) (hm : Mono T r) (hn : T.length ≤ 1000000) :
    Calls Tryd.prog 84 #[.slice (some ⟨g, 0, none⟩) T.length c, .int .i32 r, .func (.func 85) #[] #[]] w (Searched T r w) := by
  have HM := Lib.hid hm
  clear hm
  go_enter Tryd.func84, Tryd.ntmps84
  go_wp2_with fail
  go_loopw [9, 10] (fun i j wr => ∃ a b : Nat, i = .int .i64 a ∧ j = .int .i64 b ∧ SInv T r w wr a b) (fun i j _ => (intOf j).toNat - (intOf i).toNat)
  case atStart => exact ⟨0, T.length, rfl, rfl, ⟨Nat.zero_le _, Nat.le_refl _, fun m x h => absurd h (Nat.not_lt_zero _), fun m x h hx => by rw [List.getElem?_eq_none h] at hx; exact absurd hx (by simp), Below.refl _ _⟩⟩
  case round =>
    obtain ⟨a, b, rfl, rfl, I⟩ := hrel
    have h1 := I.le
    have h2 := I.top
    by_cases hlt : a < b
    · obtain ⟨x, hx⟩ : ∃ x, T[(a + b) / 2]? = some x := ⟨_, List.getElem?_eq_getElem (by omega)⟩
      have hr : wr.rangeAt g ((a + b) / 2 * 8) (cells_u x) := hT.below I.bel hg _ _ hx
      have HX := Lib.hid hx
      have HR := Lib.hid hr
      clear hx hr
      by_cases hc : cmpU x r < 0
      · have J := fun w1 hb => I.up (w1 := w1) HM.out (show (a + b) / 2 < b by omega) HX.out hc hb
        go_wp2_with (first | (with_reducible refine wpList_load_mid rfl 88 _ rfl g (((a + b) / 2) * 8) rfl (cells_u x) _ HR.out Tryd.underlying88 rfl (row_size x) ?_) | (go_at_call 85; refine (cmp_calls x r _).mono ?_; rintro e w1 ⟨rfl, hb1⟩))
        go_roundw
        case rel => exact ⟨(a + b) / 2 + 1, b, by go_num, rfl, J _ hb1⟩
        case measure => simp [intOf]; omega
      · have J := fun w1 hb => I.down (w1 := w1) HM.out (show a ≤ (a + b) / 2 by omega) (show (a + b) / 2 < b by omega) HX.out hc hb
        have hc' : 0 ≤ cmpU x r := by omega
        clear hc
        go_wp2_with (first | (with_reducible refine wpList_load_mid rfl 88 _ rfl g (((a + b) / 2) * 8) rfl (cells_u x) _ HR.out Tryd.underlying88 rfl (row_size x) ?_) | (go_at_call 85; refine (cmp_calls x r _).mono ?_; rintro e w1 ⟨rfl, hb1⟩))
        go_roundw
        case rel => exact ⟨a, (a + b) / 2, rfl, by go_num, J _ hb1⟩
        case measure => simp [intOf]; omega
    · obtain rfl : a = b := by omega
      have E : Ends T r a := ⟨h2, I.lo, I.hi⟩
      by_cases ha : a < T.length
      · obtain ⟨x, hx⟩ : ∃ x, T[a]? = some x := ⟨_, List.getElem?_eq_getElem ha⟩
        have hr : wr.rangeAt g (a * 8) (cells_u x) := hT.below I.bel hg _ _ hx
        have hf : foundU T r a = (cmpU x r == 0) := by unfold foundU; rw [hx]
        have HF := Lib.hid hf
        have HR := Lib.hid hr
        have HB := I.bel
        have c0 := hr 0 _ rfl
        have c1 := hr 1 _ rfl
        have c2 := hr 2 _ rfl
        have c3 := hr 3 _ rfl
        have c4 := hr 4 _ rfl
        have c5 := hr 5 _ rfl
        have c6 := hr 6 _ rfl
        have c7 := hr 7 _ rfl
        rw [Nat.add_zero] at c0
        have hd2 : decide (a < T.length) = true := decide_eq_true ha
        have hd1 : decide ((a : Int) < (T.length : Int)) = true := decide_eq_true (by omega)
        clear hx hr hf I
        go_wp2_with (first | (go_at_call 85; refine (cmp_calls x r _).mono ?_; rintro e w1 ⟨rfl, hb1⟩))
        go_ret2
        exact ⟨a, E, by rw [HF.out]; rfl, below_then HB HB.size hb1⟩
      · have hf : foundU T r a = false := by unfold foundU; rw [List.getElem?_eq_none (by omega)]
        have HF := Lib.hid hf
        have HB := I.bel
        clear hf I
        go_wp2_with fail
        go_ret2
        exact ⟨a, E, by rw [HF.out]; rfl, HB⟩

def inU (r : Int) (x : S88) : Bool := decide (x.f0 ≤ r) && decide (r ≤ x.f1)
theorem cmp_zero {x : S88} {r : Int} (h : (cmpU x r == 0) = true) : inU r x = true := by
  unfold cmpU at h
  unfold inU
  by_cases h1 : x.f1 < r
  · rw [if_pos h1] at h; exact absurd h (by decide)
  · rw [if_neg h1] at h
    by_cases h2 : r < x.f0
    · rw [if_pos h2] at h; exact absurd h (by decide)
    · simp; omega
theorem cmp_in {x : S88} {r : Int} (h : inU r x = true) : cmpU x r = 0 := by
  unfold inU at h
  simp at h
  unfold cmpU
  rw [if_neg (by omega), if_neg (by omega)]
/-- A table whose rows rise. -/
def Rises (T : List S88) : Prop := T.Pairwise fun x y => x.f0 ≤ y.f0 ∧ x.f1 ≤ y.f1
theorem Rises.at_ {T : List S88} (h : Rises T) {a b : Nat} {x y : S88} (hab : a ≤ b) (hx : T[a]? = some x) (hy : T[b]? = some y) : x.f0 ≤ y.f0 ∧ x.f1 ≤ y.f1 := by
  rcases Nat.lt_or_eq_of_le hab with hlt | rfl
  · obtain ⟨ha, rfl⟩ := List.getElem?_eq_some_iff.1 hx
    obtain ⟨hb, rfl⟩ := List.getElem?_eq_some_iff.1 hy
    exact List.pairwise_iff_getElem.1 h a b ha hb hlt
  · rw [hx] at hy
    obtain rfl := Option.some.inj hy
    exact ⟨Int.le_refl _, Int.le_refl _⟩
theorem Rises.mono {T : List S88} (h : Rises T) (r : Int) : Mono T r := by
  intro a b x y hab hx hy hc
  have := (h.at_ hab hx hy).2
  unfold cmpU at hc ⊢
  by_cases h1 : y.f1 < r
  · rw [if_pos (show x.f1 < r by omega)]; decide
  · rw [if_neg h1] at hc
    split at hc
    · exact absurd hc (by decide)
    · exact absurd hc (by decide)
theorem find_first {α : Type} {p : α → Bool} : ∀ {T : List α} {i : Nat} {x : α}, T[i]? = some x → p x = true → (∀ m y, m < i → T[m]? = some y → p y = false) → T.find? p = some x
  | [], i, x, h, _, _ => by simp at h
  | y :: T, 0, x, h, hp, _ => by
    obtain rfl : y = x := by simpa using h
    simp [List.find?_cons, hp]
  | y :: T, i + 1, x, h, hp, hm => by
    have h0 := hm 0 y (by omega) rfl
    simp only [List.find?_cons, h0]
    exact find_first (by simpa using h) hp (fun m z hmi hz => hm (m + 1) z (by omega) (by simpa using hz))
theorem find_nowhere {α : Type} {p : α → Bool} {T : List α} (h : ∀ (m : Nat) (x : α), T[m]? = some x → p x = false) : T.find? p = none := by
  rw [List.find?_eq_none]
  intro x hx
  obtain ⟨m, hm⟩ := List.mem_iff_getElem?.1 hx
  rw [h m x hm]
  decide
theorem Ends.yes {T : List S88} {r : Int} {i : Nat} (h : Ends T r i) (hf : foundU T r i = true) : ∃ x, T[i]? = some x ∧ T.find? (inU r) = some x := by
  unfold foundU at hf
  cases hx : T[i]? with
  | none => rw [hx] at hf; exact absurd hf Bool.false_ne_true
  | some x =>
    rw [hx] at hf
    refine ⟨x, rfl, find_first hx (cmp_zero hf) fun m y hm hy => ?_⟩
    have := h.2.1 m y hm hy
    cases hb : inU r y with
    | false => rfl
    | true => have := cmp_in hb; omega
theorem Ends.no {T : List S88} {r : Int} {i : Nat} (hT : Rises T) (h : Ends T r i) (hf : foundU T r i = false) : T.find? (inU r) = none := by
  refine find_nowhere fun m y hy => ?_
  cases hb : inU r y with
  | false => rfl
  | true =>
    exfalso
    have h0 := cmp_in hb
    rcases Nat.lt_or_ge m i with hm | hm
    · have := h.2.1 m y hm hy; omega
    · have hi : i < T.length := by have := (List.getElem?_eq_some_iff.1 hy).1; omega
      have hx : T[i]? = some T[i] := List.getElem?_eq_getElem hi
      have hs := hT.at_ hm hx hy
      have hc := h.2.2 i T[i] (Nat.le_refl _) hx
      unfold foundU at hf
      rw [hx] at hf
      simp only [beq_eq_false_iff_ne] at hf
      unfold inU at hb
      simp at hb
      unfold cmpU at hc hf
      split at hc
      · exact absurd hc (by decide)
      · rename_i h1
        rw [if_neg h1] at hf
        split at hf
        · omega
        · exact hf rfl
theorem rises0 : Rises uT0 := by unfold Rises; decide +kernel
theorem rises1 : Rises uT1 := by unfold Rises; decide +kernel
theorem rises2 : Rises uT2 := by unfold Rises; decide +kernel
/-- The line of a code point. -/
def findU (r : Int) : S88 := ((uT0 ++ uT1 ++ uT2).find? (inU r)).getD z88
def unidata_find.f (r : Int) : Option (Int × Int × Int × Int × Int × Int × Int × Bool) := some ((findU r).f0, (findU r).f1, (findU r).f2, (findU r).f3, (findU r).f4, (findU r).f5, (findU r).f6, (findU r).f7)
theorem findU0 {r : Int} {x : S88} (h : uT0.find? (inU r) = some x) : findU r = x := by unfold findU; rw [List.find?_append, List.find?_append, h]; rfl
theorem findU1 {r : Int} {x : S88} (h0 : uT0.find? (inU r) = none) (h : uT1.find? (inU r) = some x) : findU r = x := by unfold findU; rw [List.find?_append, List.find?_append, h0, h]; rfl
theorem findU2 {r : Int} {x : S88} (h0 : uT0.find? (inU r) = none) (h1 : uT1.find? (inU r) = none) (h : uT2.find? (inU r) = some x) : findU r = x := by unfold findU; rw [List.find?_append, List.find?_append, h0, h1, h]; rfl
theorem findU3 {r : Int} (h0 : uT0.find? (inU r) = none) (h1 : uT1.find? (inU r) = none) (h : uT2.find? (inU r) = none) : findU r = z88 := by unfold findU; rw [List.find?_append, List.find?_append, h0, h1, h]; rfl

structure FW (w W : World) : Prop where
  r0 : RowsAt cells_u 8 W (w.heap.size + 1) uT0
  r1 : RowsAt cells_u 8 W (w.heap.size + 1 + 1) uT1
  r2 : RowsAt cells_u 8 W (w.heap.size + 1 + 1 + 1) uT2
  th : W.there w.heap.size 0 8
  sz : w.heap.size + 1 + 1 + 1 < W.heap.size
  bel : Below w.heap.size w W
theorem FW.keep {w W W1 : World} (h : FW w W) (hb : Below W.heap.size W W1) : FW w W1 :=
  ⟨h.r0.below hb (by have := h.sz; omega), h.r1.below hb (by have := h.sz; omega), h.r2.below hb h.sz, there_below h.th hb (by have := h.sz; omega), Nat.lt_of_lt_of_le h.sz hb.size, below_then h.bel (by have := h.sz; omega) hb⟩
theorem FW.start (w : World) (c : Array Value) (hc : c.size = 8) : FW w ((((w.alloc (.cells c 88)).alloc (.cells (uT0.flatMap cells_u).toArray 88)).alloc (.cells (uT1.flatMap cells_u).toArray 88)).alloc (.cells (uT2.flatMap cells_u).toArray 88)) := by
  have h0 := RowsAt.new (f := cells_u) (n := 8) (fun _ => rfl) (w.alloc (.cells c 88)) uT0 88
  have h1 := RowsAt.new (f := cells_u) (n := 8) (fun _ => rfl) ((w.alloc (.cells c 88)).alloc (.cells (uT0.flatMap cells_u).toArray 88)) uT1 88
  have h2 := RowsAt.new (f := cells_u) (n := 8) (fun _ => rfl) (((w.alloc (.cells c 88)).alloc (.cells (uT0.flatMap cells_u).toArray 88)).alloc (.cells (uT1.flatMap cells_u).toArray 88)) uT2 88
  simp only [World.size_alloc] at h0 h1 h2
  have ht := there_new w c 88
  rw [hc] at ht
  exact ⟨(h0.later _).later _, h1.later _, h2, World.there_alloc (World.there_alloc (World.there_alloc ht _) _) _, by simp, ((((Below.refl _ _).alloc (Nat.le_refl _) _).alloc (by simp) _).alloc (by simp; omega) _).alloc (by simp; omega) _⟩
theorem index3 (x0 x1 x2 : Value) : (∀ w, (Instr.index 102 (.agg #[x0, x1, x2]) (.int .i64 0)).run Tryd.prog w = .ok x0 w) ∧ (∀ w, (Instr.index 102 (.agg #[x0, x1, x2]) (.int .i64 1)).run Tryd.prog w = .ok x1 w) ∧ (∀ w, (Instr.index 102 (.agg #[x0, x1, x2]) (.int .i64 2)).run Tryd.prog w = .ok x2 w) :=
  ⟨fun _ => by kernel_rfl, fun _ => by kernel_rfl, fun _ => by kernel_rfl⟩

def SYes (T : List S88) (x : S88) (w : World) (e : Ending) (w' : World) : Prop := ∃ i : Nat, T[i]? = some x ∧ e = .returned (.tuple #[.int .i64 i, .bool true]) ∧ Below w.heap.size w w'
def SNo (w : World) (e : Ending) (w' : World) : Prop := ∃ i : Nat, e = .returned (.tuple #[.int .i64 i, .bool false]) ∧ Below w.heap.size w w'
theorem search_yes {T : List S88} {r : Int} {x : S88} (hR : Rises T) (hx : T.find? (inU r) = some x) (g c : Nat) (w : World) (hT : RowsAt cells_u 8 w g T) (hg : g < w.heap.size) (hn : T.length ≤ 1000000) :
    Calls Tryd.prog 84 #[.slice (some ⟨g, 0, none⟩) T.length c, .int .i32 r, .func (.func 85) #[] #[]] w (SYes T x w) :=
  (search_calls T g c r w hT hg (hR.mono r) hn).mono fun e w' ⟨i, hE, he, hb⟩ => by
    cases hf : foundU T r i with
    | true =>
      obtain ⟨y, hy, hy2⟩ := hE.yes hf
      rw [hx] at hy2
      obtain rfl := Option.some.inj hy2
      rw [hf] at he
      exact ⟨i, hy, he, hb⟩
    | false => rw [hE.no hR hf] at hx; exact absurd hx (by simp)
theorem search_no {T : List S88} {r : Int} (hR : Rises T) (hx : T.find? (inU r) = none) (g c : Nat) (w : World) (hT : RowsAt cells_u 8 w g T) (hg : g < w.heap.size) (hn : T.length ≤ 1000000) :
    Calls Tryd.prog 84 #[.slice (some ⟨g, 0, none⟩) T.length c, .int .i32 r, .func (.func 85) #[] #[]] w (SNo w) :=
  (search_calls T g c r w hT hg (hR.mono r) hn).mono fun e w' ⟨i, hE, he, hb⟩ => by
    cases hf : foundU T r i with
    | true =>
      obtain ⟨y, hy, hy2⟩ := hE.yes hf
      rw [hx] at hy2
      exact absurd hy2 (by simp)
    | false => rw [hf] at he; exact ⟨i, he, hb⟩
theorem row_size_a (x : S88) : (Tryd.prog.info? 88).map (·.size) = some (cells_u x).toArray.size := info_u
theorem th_u {W : World} {g : Nat} (h : W.there g 0 8) (x : S88) : W.there g 0 (cells_u x).toArray.size := h
theorem th_z {W : World} {g : Nat} (h : W.there g 0 8) : W.there g 0 (#[.int .i32 0, .int .i32 0, .int .u8 0, .int .u8 0, .int .u8 0, .int .u8 0, .int .u8 0, .bool false] : Array Value).size := h
theorem size_z : (Tryd.prog.info? 88).map (·.size) = some (#[.int .i32 0, .int .i32 0, .int .u8 0, .int .u8 0, .int .u8 0, .int .u8 0, .int .u8 0, .bool false] : Array Value).size := info_u
theorem one_z : (#[.int .i32 0, .int .i32 0, .int .u8 0, .int .u8 0, .int .u8 0, .int .u8 0, .int .u8 0, .bool false] : Array Value).all (·.oneCell') = true := by simp [Value.oneCell']
theorem row_one (x : S88) : (cells_u x).toArray.all (·.oneCell') = true := by simp [cells_u, Value.oneCell']

set_option maxHeartbeats 2000000 in
theorem find_0 (r : Int) (w : World) {x : S88} (h0 : uT0.find? (inU r) = some x) :
    Calls Tryd.prog 69 #[.int .i32 r] w fun e w' => e = .returned (.agg (cells_u x).toArray) ∧ Below w.heap.size w w' := by
  have H0 := Lib.hid h0
  clear h0
  obtain ⟨i0, i1, i2⟩ := index3 (.slice (some ⟨w.heap.size + 1, 0, none⟩) uT0.length uT0.length) (.slice (some ⟨w.heap.size + 1 + 1, 0, none⟩) uT1.length uT1.length) (.slice (some ⟨w.heap.size + 1 + 1 + 1, 0, none⟩) uT2.length uT2.length)
  go_enter Tryd.func69, Tryd.ntmps69
  go_wp2_with (first | (go_at_call 81; refine (unidata_rows0.run _).mono ?_; rintro e w1 ⟨rfl, rfl⟩) | (go_at_call 82; refine (unidata_rows1.run _).mono ?_; rintro e w1 ⟨rfl, rfl⟩) | (go_at_call 83; refine (unidata_rows2.run _).mono ?_; rintro e w1 ⟨rfl, rfl⟩))
  have hW := FW.start w #[.int .i32 0, .int .i32 0, .int .u8 0, .int .u8 0, .int .u8 0, .int .u8 0, .int .u8 0, .bool false] rfl
  generalize World.alloc (World.alloc (World.alloc (World.alloc w _) _) _) _ = W at hW ⊢
  refine wp_loop_rounds 4 ?_
  rw [rounds_succ]
  go_wp2_with (first | (go_at_call 84; refine (search_yes rises0 H0.out (w.heap.size + 1) _ _ hW.r0 (by have := hW.sz; omega) (by decide)).mono ?_; rintro e w2 ⟨i, hx, rfl, hb0⟩; have hW9 := hW.keep hb0; have hr := hW9.r0 i x hx; have hi1 := (List.getElem?_eq_some_iff.1 hx).1; have HX := Lib.hid hx; clear hx) | (with_reducible refine wpList_load_mid rfl 88 _ rfl (w.heap.size + 1) (i * 8) rfl (cells_u x) _ hr Tryd.underlying88 rfl (row_size x) ?_) | (with_reducible refine wpList_store_mid rfl 88 _ _ rfl w.heap.size 0 (cells_u x).toArray rfl rfl (th_u hW9.th x) (row_size_a x) (row_one x) ?_))
  refine bodyPost_ret (v := .agg (cells_u x).toArray) (results_cell_mid (g := w.heap.size) rfl _ _ (cells_u x) _ (by simp [Act.put]) (World.rangeAt_setCells_same _ _ _ _ (th_u hW9.th x)) Tryd.underlying88 rfl (row_size x)) rfl ⟨rfl, ?_⟩
  exact below_cells (Nat.le_refl _) _ _ hW9.bel
set_option maxHeartbeats 2000000 in
theorem find_1 (r : Int) (w : World) {x : S88} (h0 : uT0.find? (inU r) = none) (h1 : uT1.find? (inU r) = some x) :
    Calls Tryd.prog 69 #[.int .i32 r] w fun e w' => e = .returned (.agg (cells_u x).toArray) ∧ Below w.heap.size w w' := by
  have H0 := Lib.hid h0
  have H1 := Lib.hid h1
  clear h0 h1
  obtain ⟨i0, i1, i2⟩ := index3 (.slice (some ⟨w.heap.size + 1, 0, none⟩) uT0.length uT0.length) (.slice (some ⟨w.heap.size + 1 + 1, 0, none⟩) uT1.length uT1.length) (.slice (some ⟨w.heap.size + 1 + 1 + 1, 0, none⟩) uT2.length uT2.length)
  go_enter Tryd.func69, Tryd.ntmps69
  go_wp2_with (first | (go_at_call 81; refine (unidata_rows0.run _).mono ?_; rintro e w1 ⟨rfl, rfl⟩) | (go_at_call 82; refine (unidata_rows1.run _).mono ?_; rintro e w1 ⟨rfl, rfl⟩) | (go_at_call 83; refine (unidata_rows2.run _).mono ?_; rintro e w1 ⟨rfl, rfl⟩))
  have hW := FW.start w #[.int .i32 0, .int .i32 0, .int .u8 0, .int .u8 0, .int .u8 0, .int .u8 0, .int .u8 0, .bool false] rfl
  generalize World.alloc (World.alloc (World.alloc (World.alloc w _) _) _) _ = W at hW ⊢
  refine wp_loop_rounds 4 ?_
  rw [rounds_succ]
  go_wp2_with (first | (go_at_call 84; refine (search_no rises0 H0.out (w.heap.size + 1) _ _ hW.r0 (by have := hW.sz; omega) (by decide)).mono ?_; rintro e w2 ⟨i, rfl, hb0⟩))
  have hW1 := hW.keep hb0
  rw [rounds_succ]
  go_wp2_with (first | (go_at_call 84; refine (search_yes rises1 H1.out (w.heap.size + 1 + 1) _ _ hW1.r1 (by have := hW1.sz; omega) (by decide)).mono ?_; rintro e w3 ⟨i, hx, rfl, hb1⟩; have hW9 := hW1.keep hb1; have hr := hW9.r1 i x hx; have hi1 := (List.getElem?_eq_some_iff.1 hx).1; have HX := Lib.hid hx; clear hx) | (with_reducible refine wpList_load_mid rfl 88 _ rfl (w.heap.size + 1 + 1) (i * 8) rfl (cells_u x) _ hr Tryd.underlying88 rfl (row_size x) ?_) | (with_reducible refine wpList_store_mid rfl 88 _ _ rfl w.heap.size 0 (cells_u x).toArray rfl rfl (th_u hW9.th x) (row_size_a x) (row_one x) ?_))
  refine bodyPost_ret (v := .agg (cells_u x).toArray) (results_cell_mid (g := w.heap.size) rfl _ _ (cells_u x) _ (by simp [Act.put]) (World.rangeAt_setCells_same _ _ _ _ (th_u hW9.th x)) Tryd.underlying88 rfl (row_size x)) rfl ⟨rfl, ?_⟩
  exact below_cells (Nat.le_refl _) _ _ hW9.bel
set_option maxHeartbeats 2000000 in
theorem find_2 (r : Int) (w : World) {x : S88} (h0 : uT0.find? (inU r) = none) (h1 : uT1.find? (inU r) = none) (h2 : uT2.find? (inU r) = some x) :
    Calls Tryd.prog 69 #[.int .i32 r] w fun e w' => e = .returned (.agg (cells_u x).toArray) ∧ Below w.heap.size w w' := by
  have H0 := Lib.hid h0
  have H1 := Lib.hid h1
  have H2 := Lib.hid h2
  clear h0 h1 h2
  obtain ⟨i0, i1, i2⟩ := index3 (.slice (some ⟨w.heap.size + 1, 0, none⟩) uT0.length uT0.length) (.slice (some ⟨w.heap.size + 1 + 1, 0, none⟩) uT1.length uT1.length) (.slice (some ⟨w.heap.size + 1 + 1 + 1, 0, none⟩) uT2.length uT2.length)
  go_enter Tryd.func69, Tryd.ntmps69
  go_wp2_with (first | (go_at_call 81; refine (unidata_rows0.run _).mono ?_; rintro e w1 ⟨rfl, rfl⟩) | (go_at_call 82; refine (unidata_rows1.run _).mono ?_; rintro e w1 ⟨rfl, rfl⟩) | (go_at_call 83; refine (unidata_rows2.run _).mono ?_; rintro e w1 ⟨rfl, rfl⟩))
  have hW := FW.start w #[.int .i32 0, .int .i32 0, .int .u8 0, .int .u8 0, .int .u8 0, .int .u8 0, .int .u8 0, .bool false] rfl
  generalize World.alloc (World.alloc (World.alloc (World.alloc w _) _) _) _ = W at hW ⊢
  refine wp_loop_rounds 4 ?_
  rw [rounds_succ]
  go_wp2_with (first | (go_at_call 84; refine (search_no rises0 H0.out (w.heap.size + 1) _ _ hW.r0 (by have := hW.sz; omega) (by decide)).mono ?_; rintro e w2 ⟨i, rfl, hb0⟩))
  have hW1 := hW.keep hb0
  rw [rounds_succ]
  go_wp2_with (first | (go_at_call 84; refine (search_no rises1 H1.out (w.heap.size + 1 + 1) _ _ hW1.r1 (by have := hW1.sz; omega) (by decide)).mono ?_; rintro e w3 ⟨i, rfl, hb1⟩))
  have hW2 := hW1.keep hb1
  rw [rounds_succ]
  go_wp2_with (first | (go_at_call 84; refine (search_yes rises2 H2.out (w.heap.size + 1 + 1 + 1) _ _ hW2.r2 (by have := hW2.sz; omega) (by decide)).mono ?_; rintro e w4 ⟨i, hx, rfl, hb2⟩; have hW9 := hW2.keep hb2; have hr := hW9.r2 i x hx; have hi1 := (List.getElem?_eq_some_iff.1 hx).1; have HX := Lib.hid hx; clear hx) | (with_reducible refine wpList_load_mid rfl 88 _ rfl (w.heap.size + 1 + 1 + 1) (i * 8) rfl (cells_u x) _ hr Tryd.underlying88 rfl (row_size x) ?_) | (with_reducible refine wpList_store_mid rfl 88 _ _ rfl w.heap.size 0 (cells_u x).toArray rfl rfl (th_u hW9.th x) (row_size_a x) (row_one x) ?_))
  refine bodyPost_ret (v := .agg (cells_u x).toArray) (results_cell_mid (g := w.heap.size) rfl _ _ (cells_u x) _ (by simp [Act.put]) (World.rangeAt_setCells_same _ _ _ _ (th_u hW9.th x)) Tryd.underlying88 rfl (row_size x)) rfl ⟨rfl, ?_⟩
  exact below_cells (Nat.le_refl _) _ _ hW9.bel
set_option maxHeartbeats 2000000 in
theorem find_3 (r : Int) (w : World) (h0 : uT0.find? (inU r) = none) (h1 : uT1.find? (inU r) = none) (h2 : uT2.find? (inU r) = none) :
    Calls Tryd.prog 69 #[.int .i32 r] w fun e w' => e = .returned (.agg (cells_u z88).toArray) ∧ Below w.heap.size w w' := by
  have H0 := Lib.hid h0
  have H1 := Lib.hid h1
  have H2 := Lib.hid h2
  clear h0 h1 h2
  obtain ⟨i0, i1, i2⟩ := index3 (.slice (some ⟨w.heap.size + 1, 0, none⟩) uT0.length uT0.length) (.slice (some ⟨w.heap.size + 1 + 1, 0, none⟩) uT1.length uT1.length) (.slice (some ⟨w.heap.size + 1 + 1 + 1, 0, none⟩) uT2.length uT2.length)
  go_enter Tryd.func69, Tryd.ntmps69
  go_wp2_with (first | (go_at_call 81; refine (unidata_rows0.run _).mono ?_; rintro e w1 ⟨rfl, rfl⟩) | (go_at_call 82; refine (unidata_rows1.run _).mono ?_; rintro e w1 ⟨rfl, rfl⟩) | (go_at_call 83; refine (unidata_rows2.run _).mono ?_; rintro e w1 ⟨rfl, rfl⟩))
  have hW := FW.start w #[.int .i32 0, .int .i32 0, .int .u8 0, .int .u8 0, .int .u8 0, .int .u8 0, .int .u8 0, .bool false] rfl
  generalize World.alloc (World.alloc (World.alloc (World.alloc w _) _) _) _ = W at hW ⊢
  refine wp_loop_rounds 4 ?_
  rw [rounds_succ]
  go_wp2_with (first | (go_at_call 84; refine (search_no rises0 H0.out (w.heap.size + 1) _ _ hW.r0 (by have := hW.sz; omega) (by decide)).mono ?_; rintro e w2 ⟨i, rfl, hb0⟩))
  have hW1 := hW.keep hb0
  rw [rounds_succ]
  go_wp2_with (first | (go_at_call 84; refine (search_no rises1 H1.out (w.heap.size + 1 + 1) _ _ hW1.r1 (by have := hW1.sz; omega) (by decide)).mono ?_; rintro e w3 ⟨i, rfl, hb1⟩))
  have hW2 := hW1.keep hb1
  rw [rounds_succ]
  go_wp2_with (first | (go_at_call 84; refine (search_no rises2 H2.out (w.heap.size + 1 + 1 + 1) _ _ hW2.r2 (by have := hW2.sz; omega) (by decide)).mono ?_; rintro e w4 ⟨i, rfl, hb2⟩))
  have hW3 := hW2.keep hb2
  rw [rounds_succ]
  go_wp2_with (first | (with_reducible refine wpList_store_mid rfl 88 _ _ rfl w.heap.size 0 #[.int .i32 0, .int .i32 0, .int .u8 0, .int .u8 0, .int .u8 0, .int .u8 0, .int .u8 0, .bool false] rfl rfl (th_z hW3.th) size_z one_z ?_))
  refine bodyPost_ret (v := .agg (cells_u z88).toArray) (results_cell_mid (g := w.heap.size) rfl _ _ (cells_u z88) _ (by simp [Act.put]) (World.rangeAt_setCells_same _ _ _ _ (th_u hW3.th z88)) Tryd.underlying88 rfl (row_size z88)) rfl ⟨rfl, ?_⟩
  exact below_cells (Nat.le_refl _) _ _ hW3.bel
theorem find_any (r : Int) (w : World) :
    Calls Tryd.prog 69 #[.int .i32 r] w fun e w' => e = .returned (.agg (cells_u (findU r)).toArray) ∧ Below w.heap.size w w' := by
  cases h0 : uT0.find? (inU r) with
  | some x => rw [findU0 h0]; exact find_0 r w h0
  | none =>
    cases h1 : uT1.find? (inU r) with
    | some x => rw [findU1 h0 h1]; exact find_1 r w h0 h1
    | none =>
      cases h2 : uT2.find? (inU r) with
      | some x => rw [findU2 h0 h1 h2]; exact find_2 r w h0 h1 h2
      | none => rw [findU3 h0 h1 h2]; exact find_3 r w h0 h1 h2
theorem unidata_find.calls (a0 : Int) (r1 : Int) (r2 : Int) (r3 : Int) (r4 : Int) (r5 : Int) (r6 : Int) (r7 : Int) (r8 : Bool) (w : World) (h : unidata_find.f a0 = some (r1, r2, r3, r4, r5, r6, r7, r8)) :
    Calls Tryd.prog 69 #[.int .i32 a0] w fun e w' => e = .returned (.agg #[.int .i32 r1, .int .i32 r2, .int .u8 r3, .int .u8 r4, .int .u8 r5, .int .u8 r6, .int .u8 r7, .bool r8]) ∧ Below w.heap.size w w' := by
  have h := Option.some.inj h
  simp only [Prod.mk.injEq] at h
  obtain ⟨rfl, rfl, rfl, rfl, rfl, rfl, rfl, rfl⟩ := h
  exact find_any a0 w
end Go.Proofs.YtncbbgmhmofhnaaDoor.Pr
end

section
namespace Go.Proofs.YtncbbgmhmofhnaaDoor.Pr
open Go.RowKit Go.Proofs.YtncbbgmhmofhnaaDoorW.PrintWords Go.Proofs.YtncbbgmhmofhnaaDoorW.PrintLast Go.Proofs.YtncbbgmhmofhnaaDoorW.PrintMore
attribute [local go_sem] max2_int min2_int max_two min_two max_three min_three max_four min_four Instr.field asAgg   -- for this text's walks alone
set_option linter.unusedVariables false
set_option linter.unusedSimpArgs false

def unidata_Class.f (a0 : Int) : Option (Int) := (unidata_find.f a0).bind fun bt101 => (some bt101.2.2.2.2.2.1)
set_option maxHeartbeats 8000000 in
set_option maxRecDepth 100000 in
theorem unidata_Class.calls (a0 : Int) (r : Int) (w : World) (h : unidata_Class.f a0 = some r) :
  Calls Tryd.prog 60 #[.int .i32 a0] w fun e w' => e = .returned (.int .u8 r) ∧ Below w.heap.size w w' := by
 have HB := Aside0.mk (Below.refl w.heap.size w)
 have H : ((unidata_find.f a0).bind fun bt101 => (some bt101.2.2.2.2.2.1)) = some r := h
 clear h
 replace H := Option.bind_eq_some_iff.mp H
 obtain ⟨⟨t101, t102, t103, t104, t105, t106, t107, t108⟩, A20, H⟩ := H
 replace H : (some t106) = some r := H
 have A2 := Aside0.mk A20
 clear A20
 obtain rfl := Option.some.inj H
 go_enter Tryd.func60, Tryd.ntmps60
 go_wp2_with (first | ((with_reducible refine gate_callee (f := 69) rfl ?_); refine goesL_ (some 4) rfl rfl Tryd.func69 (by kernel_rfl) rfl #[.int .i32 a0] rfl (by (try simp only [List.map_toArray, List.map_cons, List.map_nil]); first | done | rfl | (simp only [List.length_drop, List.length_take]; rfl)) ?_; (with_reducible refine (unidata_find.calls a0 t101 t102 t103 t104 t105 t106 t107 t108 _ A2.out).mono ?_); rintro e w3 ⟨rfl, hb⟩; refine ⟨_, rfl, ?_⟩; have n0_ := Aside0.mk (below_step (by repeat (first | (with_reducible first | exact HB.out | apply below_alloc | apply pw_below_drewN | apply below_drew1) | exact HB.out)) hb); clear HB; have HB := n0_; clear n0_; (try clear hb); (try clear hb2); (try clear hk); (try clear hi)))
 go_ret
 exact ⟨by first | rfl | (simp [errW_none, errW_some] <;> rfl) | (simp [*, errW_none, errW_some] <;> rfl), by repeat (first | (with_reducible first | exact HB.out | apply below_alloc | apply pw_below_drewN | apply below_drew1) | exact HB.out)⟩

def unidata_Script.f (a0 : Int) : Option (Int) := (unidata_find.f a0).bind fun bt174 => (some bt174.2.2.2.1)
set_option maxHeartbeats 8000000 in
set_option maxRecDepth 100000 in
theorem unidata_Script.calls (a0 : Int) (r : Int) (w : World) (h : unidata_Script.f a0 = some r) :
  Calls Tryd.prog 51 #[.int .i32 a0] w fun e w' => e = .returned (.int .u8 r) ∧ Below w.heap.size w w' := by
 have HB := Aside0.mk (Below.refl w.heap.size w)
 have H : ((unidata_find.f a0).bind fun bt174 => (some bt174.2.2.2.1)) = some r := h
 clear h
 replace H := Option.bind_eq_some_iff.mp H
 obtain ⟨⟨t174, t175, t176, t177, t178, t179, t180, t181⟩, A20, H⟩ := H
 replace H : (some t177) = some r := H
 have A2 := Aside0.mk A20
 clear A20
 obtain rfl := Option.some.inj H
 go_enter Tryd.func51, Tryd.ntmps51
 go_wp2_with (first | ((with_reducible refine gate_callee (f := 69) rfl ?_); refine goesL_ (some 4) rfl rfl Tryd.func69 (by kernel_rfl) rfl #[.int .i32 a0] rfl (by (try simp only [List.map_toArray, List.map_cons, List.map_nil]); first | done | rfl | (simp only [List.length_drop, List.length_take]; rfl)) ?_; (with_reducible refine (unidata_find.calls a0 t174 t175 t176 t177 t178 t179 t180 t181 _ A2.out).mono ?_); rintro e w3 ⟨rfl, hb⟩; refine ⟨_, rfl, ?_⟩; have n0_ := Aside0.mk (below_step (by repeat (first | (with_reducible first | exact HB.out | apply below_alloc | apply pw_below_drewN | apply below_drew1) | exact HB.out)) hb); clear HB; have HB := n0_; clear n0_; (try clear hb); (try clear hb2); (try clear hk); (try clear hi)))
 go_ret
 exact ⟨by first | rfl | (simp [errW_none, errW_some] <;> rfl) | (simp [*, errW_none, errW_some] <;> rfl), by repeat (first | (with_reducible first | exact HB.out | apply below_alloc | apply pw_below_drewN | apply below_drew1) | exact HB.out)⟩

def portcullisref03_Pairs.f  : Option ((List (S86))) := (portcullisref03_pairs0.f).bind fun t226 => ((portcullisref03_pairs1.f).bind fun t229 => (if t226.length + t229.length < 11728124029610 then (some (t226 ++ t229)) else (none)))
set_option maxHeartbeats 8000000 in
set_option maxRecDepth 100000 in
theorem portcullisref03_Pairs.calls  (r : List (S86)) (w : World) (h : portcullisref03_Pairs.f  = some r) :
  Calls Tryd.prog 67 #[] w fun e w' => ∃ v0_ : Value, e = .returned (v0_) ∧ Kd.R k86 86 w' w.heap.size (fun _ => True) v0_ r ∧ Below w.heap.size w w' := by
 have HB := Aside0.mk (Below.refl w.heap.size w)
 have H : ((portcullisref03_pairs0.f).bind fun t226 => ((portcullisref03_pairs1.f).bind fun t229 => (if t226.length + t229.length < 11728124029610 then (some (t226 ++ t229)) else (none)))) = some r := h
 clear h
 replace H := Option.bind_eq_some_iff.mp H
 obtain ⟨t226, A10, H⟩ := H
 replace H : ((portcullisref03_pairs1.f).bind fun t229 => (if t226.length + t229.length < 11728124029610 then (some (t226 ++ t229)) else (none))) = some r := H
 have A1 := Aside0.mk A10
 clear A10
 replace H := Option.bind_eq_some_iff.mp H
 obtain ⟨t229, A20, H⟩ := H
 replace H : (if t226.length + t229.length < 11728124029610 then (some (t226 ++ t229)) else (none)) = some r := H
 have A2 := Aside0.mk A20
 clear A20
 by_cases c3 : t226.length + t229.length < 11728124029610
 ·rw [if_pos c3] at H
  have LMc3 := Aside0.mk c3
  clear c3
  obtain ⟨y232, hy232⟩ : ∃ y_ : List (S86), y_ = (t226 ++ t229) := ⟨_, rfl⟩
  replace H : (some y232) = some r := by first | (rw [hy232]; with_reducible exact H) | (have H2_ := (Option.bind_some _ _).symm.trans H; rw [hy232]; with_reducible exact H2_) | (have H2_ := (Option.bind_some _ _).symm.trans H; with_reducible exact H2_) | with_reducible exact H | (rw [hy232]; exact H) | exact H
  have Ny232 := Aside0.mk hy232
  clear hy232
  obtain rfl := Option.some.inj H
  go_enter Tryd.func67, Tryd.ntmps67
  go_wp2_with (first | ((with_reducible refine gate_callee (f := 79) rfl ?_); refine goesL_ (some 2) rfl rfl Tryd.func79 (by kernel_rfl) rfl #[] rfl (by (try simp only [List.map_toArray, List.map_cons, List.map_nil]); first | done | rfl | (simp only [List.length_drop, List.length_take]; rfl)) ?_; (with_reducible refine (portcullisref03_pairs0.calls  t226 _ A1.out).mono ?_); rintro e w4 ⟨v227, rfl, ho0, hb⟩; refine ⟨_, rfl, ?_⟩; have n0_ := Aside0.mk (Kd.R_lower ho0 (below_size (by repeat (first | (with_reducible first | exact HB.out | apply below_alloc | apply pw_below_drewN | apply below_drew1) | exact HB.out)))); have n1_ := Aside0.mk (below_step (by repeat (first | (with_reducible first | exact HB.out | apply below_alloc | apply pw_below_drewN | apply below_drew1) | exact HB.out)) hb); clear HB; have HO228 := n0_; have HB := n1_; clear n0_ n1_; (try clear hb); (try clear hb2); (try clear hk); (try clear hi); (try clear ho0)) | ((with_reducible refine gate_callee (f := 80) rfl ?_); refine goesL_ (some 4) rfl rfl Tryd.func80 (by kernel_rfl) rfl #[] rfl (by (try simp only [List.map_toArray, List.map_cons, List.map_nil]); first | done | rfl | (simp only [List.length_drop, List.length_take]; rfl)) ?_; (with_reducible refine (portcullisref03_pairs1.calls  t229 _ A2.out).mono ?_); rintro e w5 ⟨v230, rfl, ho0, hb⟩; refine ⟨_, rfl, ?_⟩; have n0_ := Aside0.mk (Kd.R_elder' (by (with_reducible repeat (first | apply Kd.R_alloc | apply Kd.R_drewN | apply Kd.R_drew)); exact HO228.out) (Kd.R_base ho0) hb); have n1_ := Aside0.mk (Kd.R_lower (Kd.R_new' ho0 (Kd.R_lt (by (with_reducible repeat (first | apply Kd.R_alloc | apply Kd.R_drewN | apply Kd.R_drew)); exact HO228.out))) (below_size (by repeat (first | (with_reducible first | exact HB.out | apply below_alloc | apply pw_below_drewN | apply below_drew1) | exact HB.out)))); have n2_ := Aside0.mk (below_step (by repeat (first | (with_reducible first | exact HB.out | apply below_alloc | apply pw_below_drewN | apply below_drew1) | exact HB.out)) hb); clear HO228; clear HB; have HO228 := n0_; have HO231 := n1_; have HB := n2_; clear n0_ n1_ n2_; (try clear hb); (try clear hb2); (try clear hk); (try clear hi); (try clear ho0); obtain ⟨Ao7, co7, eo7⟩ := Kd.R_slice HO231.out; subst eo7) | ((with_reducible refine gate_builtin (b := .append) (xs := #[.tmp 3, .tmp 4]) rfl ?_); at_builtin; refine Kd.R_append_rows k86 (w0 := w) w.heap.size rfl (.tmp 3) (.tmp 4) 84 86 (.agg #[(.int .i32 0), (.int .i32 0), (.int .i32 0)]) 12 rfl Tryd.underlying84 info86 rfl (by decide) (by omega) v227 t226 t229 _ _ _ (fun k_ => some k_ ≠ (.slice Ao7 t229.length co7 : Value).ownBlock) (fun _ => False) rfl rfl ?aO ?aR (fun _ _ h => h) (fun _ h => h.elim) ?aF ?aB ?aS ?aL ?_; (case aR => repeat (first | exact (Kd.R_reads' HO231.out).2.2 | (with_reducible refine Kd.C_alloc ?_ _) | (with_reducible refine Kd.C_drewN ?_ _) | (with_reducible refine Kd.C_drew ?_))); (case aB => exact (by repeat (first | (with_reducible first | exact HB.out | apply below_alloc | apply pw_below_drewN | apply below_drew1) | exact HB.out))); (case aF => exact (fun k_ hk => Kd.fresh' (Kd.R_lt (by (with_reducible repeat (first | apply Kd.R_alloc | apply Kd.R_drewN | apply Kd.R_drew)); exact HO231.out)) k_ hk)); (case aO => exact (by (with_reducible repeat (first | apply Kd.R_alloc | apply Kd.R_drewN | apply Kd.R_drew)); exact Kd.R_mono HO228.out (fun _ hk => hk.2))); (case aS => exact (below_size (by repeat (first | (with_reducible first | exact HB.out | apply below_alloc | apply pw_below_drewN | apply below_drew1) | exact HB.out)))); (case aL => have := LMc3.out; omega); intro v233 w6 ho hb hg hat; rw [← Ny232.out] at ho; have n0_ := Aside0.mk (Kd.R_after (ok := (fun _ => True)) (by (with_reducible repeat (first | apply Kd.R_alloc | apply Kd.R_drewN | apply Kd.R_drew)); exact HO231.out) hg hat); have n1_ := Aside0.mk (hb); have n2_ := Aside0.mk (ho); clear HO231; clear HB; clear HO228; have HO231 := n0_; have HB := n1_; have HO234 := n2_; clear n0_ n1_ n2_; clear ho hb hg hat))
  go_ret
  exact ⟨_, by first | rfl | (simp [errW_none, errW_some] <;> rfl) | (simp [*, errW_none, errW_some] <;> rfl), by (with_reducible repeat (first | apply Kd.R_alloc | apply Kd.R_drewN | apply Kd.R_drew)); exact Kd.R_mono HO234.out (fun _ hk => trivial), by repeat (first | (with_reducible first | exact HB.out | apply below_alloc | apply pw_below_drewN | apply below_drew1) | exact HB.out)⟩
 ·rw [if_neg c3] at H
  exact absurd H (by simp)

def portcullisref03_Decomp.l0 : Nat → Int → List (S86) → Int → Option (List Int)
 | 0, _, _, _ => none
 | k + 1, x0, x3, x4 => if x4 < (x3.length : Int) then (if 0 ≤ x4 then (if ((rd_T86 x3 x4).f0) = x0 then (some (([(rd_T86 x3 x4).f1, (rd_T86 x3 x4).f2] : List Int))) else (portcullisref03_Decomp.l0 k x0 x3 (wrap64 (x4 + 1)))) else (none)) else (if x0 = 8486 then (some (([937] : List Int))) else (if x0 = 8490 then (some (([75] : List Int))) else (if x0 = 8491 then (some (([197] : List Int))) else (some ([] : List Int)))))
def portcullisref03_Decomp.f (k : Nat) (a0 : Int) : Option (List Int) := (portcullisref03_Pairs.f).bind fun t235 => (portcullisref03_Decomp.l0 k a0 t235 0)
def portcullisref03_Decomp.T6 : Bool × List (List Nat × List Nat) := (true, [([], []), ([], []), ([0, 1], [0, 1]), ([2], [2]), ([3], [3]), ([], []), ([], []), ([5, 6], [5, 6]), ([7], [7]), ([8], [8]), ([4, 9], [4, 9]), ([10, 0, 1, 2, 3, 4, 5, 6, 7, 8, 9, 10], [10])])
def portcullisref03_Decomp.B6 : List Nat := [0, 0, 3, 7, 15, 0, 0, 96, 224, 480, 1023, 2047]
theorem portcullisref03_Decomp.tab6 : rtab .any (opsOf Tryd.f68 6) = portcullisref03_Decomp.T6 := by kernel_rfl
theorem portcullisref03_Decomp.bits6 : waitsOk portcullisref03_Decomp.T6.2 portcullisref03_Decomp.B6 = true := by kernel_rfl
set_option maxHeartbeats 8000000 in
set_option maxRecDepth 100000 in
theorem portcullisref03_Decomp.calls (k : Nat) (a0 : Int) (r : List Int) (w : World) (h : portcullisref03_Decomp.f k a0 = some r) :
  Calls Tryd.prog 68 #[.int .i32 a0] w fun e w' => ∃ v0_ : Value, e = .returned (v0_) ∧ Kd.R (Kd.int .i32) 21 w' w.heap.size (fun _ => True) v0_ r ∧ Below w.heap.size w w' := by
 have HB := Aside0.mk (Below.refl w.heap.size w)
 have H : ((portcullisref03_Pairs.f).bind fun t235 => (portcullisref03_Decomp.l0 k a0 t235 0)) = some r := h
 clear h
 replace H := Option.bind_eq_some_iff.mp H
 obtain ⟨t235, A20, H⟩ := H
 replace H : (portcullisref03_Decomp.l0 k a0 t235 0) = some r := H
 have A2 := Aside0.mk A20
 clear A20
 have H' := Aside0.mk H
 clear H
 go_enter Tryd.func68, Tryd.ntmps68
 go_wp2_with (first | ((with_reducible refine gate_callee (f := 67) rfl ?_); refine goesL_ (some 5) rfl rfl Tryd.func67 (by kernel_rfl) rfl #[] rfl (by (try simp only [List.map_toArray, List.map_cons, List.map_nil]); first | done | rfl | (simp only [List.length_drop, List.length_take]; rfl)) ?_; (with_reducible refine (portcullisref03_Pairs.calls  t235 _ A2.out).mono ?_); rintro e w3 ⟨v236, rfl, ho0, hb⟩; refine ⟨_, rfl, ?_⟩; have n0_ := Aside0.mk (Kd.R_lower ho0 (below_size (by repeat (first | (with_reducible first | exact HB.out | apply below_alloc | apply pw_below_drewN | apply below_drew1) | exact HB.out)))); have n1_ := Aside0.mk (below_step (by repeat (first | (with_reducible first | exact HB.out | apply below_alloc | apply pw_below_drewN | apply below_drew1) | exact HB.out)) hb); clear HB; have HO237 := n0_; have HB := n1_; clear n0_ n1_; (try clear hb); (try clear hb2); (try clear hk); (try clear hi); (try clear ho0)))
 go_loopg [4] k (fun kq v4 w' => ∃ (x4_1 : Int), v4 = .int .i64 x4_1 ∧ Aside0 (portcullisref03_Decomp.l0 kq a0 t235 x4_1 = some r) ∧ Aside0 (kq ≤ k) ∧ Aside0 (Kd.R k86 86 w' w.heap.size (fun _ => True) v236 t235) ∧ Aside0 (Below w.heap.size w w'))
 case atStart => exact ⟨(0), (by first | rfl | (simp; done) | (simp [*]; done)), H', ⟨Nat.le_refl _⟩, ⟨by (with_reducible repeat (first | apply Kd.R_alloc | apply Kd.R_drewN | apply Kd.R_drew)); exact HO237.out⟩, ⟨by repeat (first | (with_reducible first | exact HB.out | apply below_alloc | apply pw_below_drewN | apply below_drew1) | exact HB.out)⟩⟩
 case round =>
  clear H'
  try clear p2
  obtain ⟨x4_1, rfl, HA, HK1, HO_3, HB⟩ := hrel
  cases gk with
  | zero => exact absurd HA.out (by simp [portcullisref03_Decomp.l0])
  | succ k1 =>
   have H := HA.out
   clear HA
   simp only [portcullisref03_Decomp.l0] at H
   by_cases c4 : x4_1 < (t235.length : Int)
   ·rw [if_pos c4] at H
    have c4b0 : decide (x4_1 < (t235.length : Int)) = true := decide_eq_true c4
    clear c4
    by_cases c5 : 0 ≤ x4_1
    ·rw [if_pos c5] at H
     have c5b0 : decide (0 ≤ x4_1) = true := decide_eq_true c5
     clear c5
     by_cases c6 : ((rd_T86 t235 x4_1).f0) = a0
     ·rw [if_pos c6] at H
      have c6b0 : (((rd_T86 t235 x4_1).f0) == a0) = true := beq_iff_eq.mpr c6
      have c6b1 : (((rd_T86 t235 x4_1).f0) != a0) = false := bne_eq_false_iff_eq.mpr c6
      clear c6
      obtain ⟨y241, hy241⟩ : ∃ y_ : List Int, y_ = (([(rd_T86 t235 x4_1).f1, (rd_T86 t235 x4_1).f2] : List Int)) := ⟨_, rfl⟩
      replace H : (some y241) = some r := by first | (rw [hy241]; with_reducible exact H) | (have H2_ := (Option.bind_some _ _).symm.trans H; rw [hy241]; with_reducible exact H2_) | (have H2_ := (Option.bind_some _ _).symm.trans H; with_reducible exact H2_) | with_reducible exact H | (rw [hy241]; exact H) | exact H
      have Ny241 := Aside0.mk hy241
      clear hy241
      obtain rfl := Option.some.inj H
      obtain ⟨Ao7, co7, eo7⟩ := Kd.R_slice HO_3.out
      subst eo7
      have p238 : 0 ≤ (x4_1 : Int) := of_decide_eq_true (by first | (with_reducible assumption) | assumption)
      have q238 : x4_1 < (t235.length : Int) := of_decide_eq_true (by first | (with_reducible assumption) | assumption)
      obtain ⟨ad238, e238, hx238_0, hx238_1, hx238_2⟩ := at_T86 (Kd.R_reads' HO_3.out).2.2 x4_1 p238 q238
      cases e238
      replace p238 := eq_true p238
      replace q238 := eq_true q238
      try go_wp2
      have n0_ := Aside0.mk (Kd.R_drew HO_3.out)
      have n1_ := Aside0.mk (below_drew1 HB.out)
      clear HO_3
      clear HB
      have HO_3 := n0_
      have HB := n1_
      clear n0_ n1_
      have p239 : 0 ≤ (x4_1 : Int) := of_decide_eq_true (by first | (with_reducible assumption) | assumption)
      have q239 : x4_1 < (t235.length : Int) := of_decide_eq_true (by first | (with_reducible assumption) | assumption)
      obtain ⟨ad239, e239, hx239_0, hx239_1, hx239_2⟩ := at_T86 (Kd.R_reads' HO_3.out).2.2 x4_1 p239 q239
      obtain rfl : ad238 = ad239 := (by injection e239)
      replace p239 := eq_true p239
      replace q239 := eq_true q239
      have p240 : 0 ≤ (x4_1 : Int) := of_decide_eq_true (by first | (with_reducible assumption) | assumption)
      have q240 : x4_1 < (t235.length : Int) := of_decide_eq_true (by first | (with_reducible assumption) | assumption)
      obtain ⟨ad240, e240, hx240_0, hx240_1, hx240_2⟩ := at_T86 (Kd.R_reads' HO_3.out).2.2 x4_1 p240 q240
      obtain rfl : ad238 = ad240 := (by injection e240)
      replace p240 := eq_true p240
      replace q240 := eq_true q240
      refine start_ (n := 12) (S := fun w' => w'.cell? (ad238.add ((x4_1).toNat * 3)) = some (.int .i32 ((rd_T86 t235 x4_1).f0)) ∧ w'.cell? ⟨(ad238.add ((x4_1).toNat * 3)).block, (ad238.add ((x4_1).toNat * 3)).off + 1, none⟩ = some (.int .i32 ((rd_T86 t235 x4_1).f1)) ∧ w'.cell? ⟨(ad238.add ((x4_1).toNat * 3)).block, (ad238.add ((x4_1).toNat * 3)).off + 2, none⟩ = some (.int .i32 ((rd_T86 t235 x4_1).f2)) ∧ w'.cell? (ad238.add ((x4_1).toNat * 3)) = some (.int .i32 ((rd_T86 t235 x4_1).f0)) ∧ w'.cell? ⟨(ad238.add ((x4_1).toNat * 3)).block, (ad238.add ((x4_1).toNat * 3)).off + 1, none⟩ = some (.int .i32 ((rd_T86 t235 x4_1).f1)) ∧ w'.cell? ⟨(ad238.add ((x4_1).toNat * 3)).block, (ad238.add ((x4_1).toNat * 3)).off + 2, none⟩ = some (.int .i32 ((rd_T86 t235 x4_1).f2))) (ds := []) #[false, false, false, false, false, false, false, false, false, false, false, false] (by kernel_rfl) rfl rfl ⟨hx239_0, hx239_1, hx239_2, hx240_0, hx240_1, hx240_2⟩ (fun hHeld => ?_); refine with_tabW portcullisref03_Decomp.tab6 portcullisref03_Decomp.bits6 (fun HT_ HW_ => ?_)
      generalize wr.drew = w8 at HO_3 HB hx239_0 hx239_1 hx239_2 hx240_0 hx240_1 hx240_2 hHeld ⊢
      refine pure_ (i := 0) (N := some 19) (v := ?_) (a' := ?_) #[true, false, false, false, false, false, false, false, false, false, false, false] rfl rfl (any_of HT_.out (by kernel_rfl)) (fun _ _ _ h => h) (Or.inl ⟨by rfl, ?_⟩) ?_ ?_
      rotate_left
      ·intro w'
       go_simp
       first | with_reducible rfl | (rw [if_neg (by (try simp only [ByteArray.size_extract] at *); omega)])
      rotate_left
      ·simp only [Act.put, List.setIfInBounds_toArray, List.set_cons_zero, List.set_cons_succ, i64_w, i32_w]
       rfl
      refine pure_ (i := 1) (N := some 20) (v := ?_) (a' := ?_) #[true, true, false, false, false, false, false, false, false, false, false, false] rfl rfl (any_of HT_.out (by kernel_rfl)) (fun _ _ _ h => h) (Or.inl ⟨by rfl, ?_⟩) ?_ ?_
      rotate_left
      ·intro w'
       go_simp
       first | with_reducible rfl | (rw [if_neg (by (try simp only [ByteArray.size_extract] at *); omega)])
      rotate_left
      ·simp only [Act.put, List.setIfInBounds_toArray, List.set_cons_zero, List.set_cons_succ, i64_w, i32_w]
       rfl
      refine pure_ (i := 2) (N := some 21) (v := ?_) (a' := ?_) #[true, true, true, false, false, false, false, false, false, false, false, false] rfl rfl (any_of HT_.out (by kernel_rfl)) (fun _ _ _ h => h) (Or.inl ⟨by rfl, ?_⟩) ?_ ?_
      rotate_left
      ·intro w'
       go_simp
       first | with_reducible rfl | (rw [if_neg (by (try simp only [ByteArray.size_extract] at *); omega)])
      rotate_left
      ·simp only [Act.put, List.setIfInBounds_toArray, List.set_cons_zero, List.set_cons_succ, i64_w, i32_w]
       rfl
      refine pure_ (i := 3) (N := some 22) (v := ?_) (a' := ?_) #[true, true, true, true, false, false, false, false, false, false, false, false] rfl rfl (any_of HT_.out (by kernel_rfl)) (fun _ _ _ h => h) (Or.inl ⟨by rfl, ?_⟩) ?_ ?_
      rotate_left
      ·intro w'
       go_simp
       first | with_reducible rfl | (rw [if_neg (by (try simp only [ByteArray.size_extract] at *); omega)])
      rotate_left
      ·simp only [Act.put, List.setIfInBounds_toArray, List.set_cons_zero, List.set_cons_succ, i64_w, i32_w]
       rfl
      refine pure_ (i := 5) (N := some 24) (v := ?_) (a' := ?_) #[true, true, true, true, false, true, false, false, false, false, false, false] rfl rfl (any_of HT_.out (by kernel_rfl)) (fun _ _ _ h => h) (Or.inl ⟨by rfl, ?_⟩) ?_ ?_
      rotate_left
      ·intro w'
       go_simp
       first | with_reducible rfl | (rw [if_neg (by (try simp only [ByteArray.size_extract] at *); omega)])
      rotate_left
      ·simp only [Act.put, List.setIfInBounds_toArray, List.set_cons_zero, List.set_cons_succ, i64_w, i32_w]
       rfl
      refine pure_ (i := 6) (N := some 25) (v := ?_) (a' := ?_) #[true, true, true, true, false, true, true, false, false, false, false, false] rfl rfl (any_of HT_.out (by kernel_rfl)) (fun _ _ _ h => h) (Or.inl ⟨by rfl, ?_⟩) ?_ ?_
      rotate_left
      ·intro w'
       go_simp
       first | with_reducible rfl | (rw [if_neg (by (try simp only [ByteArray.size_extract] at *); omega)])
      rotate_left
      ·simp only [Act.put, List.setIfInBounds_toArray, List.set_cons_zero, List.set_cons_succ, i64_w, i32_w]
       rfl
      refine pure_ (i := 7) (N := some 26) (v := ?_) (a' := ?_) #[true, true, true, true, false, true, true, true, false, false, false, false] rfl rfl (any_of HT_.out (by kernel_rfl)) (fun _ _ _ h => h) (Or.inl ⟨by rfl, ?_⟩) ?_ ?_
      rotate_left
      ·intro w'
       go_simp
       first | with_reducible rfl | (rw [if_neg (by (try simp only [ByteArray.size_extract] at *); omega)])
      rotate_left
      ·simp only [Act.put, List.setIfInBounds_toArray, List.set_cons_zero, List.set_cons_succ, i64_w, i32_w]
       rfl
      refine pure_ (i := 8) (N := some 27) (v := ?_) (a' := ?_) #[true, true, true, true, false, true, true, true, true, false, false, false] rfl rfl (any_of HT_.out (by kernel_rfl)) (fun _ _ _ h => h) (Or.inl ⟨by rfl, ?_⟩) ?_ ?_
      rotate_left
      ·intro w'
       go_simp
       first | with_reducible rfl | (rw [if_neg (by (try simp only [ByteArray.size_extract] at *); omega)])
      rotate_left
      ·simp only [Act.put, List.setIfInBounds_toArray, List.set_cons_zero, List.set_cons_succ, i64_w, i32_w]
       rfl
      refine take_ (i := 4) (N := some 23) (v := ?_) (a' := ?_) #[true, true, true, true, true, true, true, true, true, false, false, false] rfl rfl (take_ofW HT_.out HW_.out (by kernel_rfl)) (fun _ _ _ h => h) (Or.inl ⟨by rfl, ?_⟩) hHeld ?_ ?_
      rotate_left
      ·rintro w' ⟨s0, s1, s2, s3, s4, s5⟩
       go_simp
       first | with_reducible rfl | (rw [if_neg (by (try simp only [ByteArray.size_extract] at *); omega)])
      rotate_left
      ·simp only [Act.put, List.setIfInBounds_toArray, List.set_cons_zero, List.set_cons_succ, i64_w, i32_w]
       rfl
      refine take_ (i := 9) (N := some 28) (v := ?_) (a' := ?_) #[true, true, true, true, true, true, true, true, true, true, false, false] rfl rfl (take_ofW HT_.out HW_.out (by kernel_rfl)) (fun _ _ _ h => h) (Or.inl ⟨by rfl, ?_⟩) hHeld ?_ ?_
      rotate_left
      ·rintro w' ⟨s0, s1, s2, s3, s4, s5⟩
       go_simp
       first | with_reducible rfl | (rw [if_neg (by (try simp only [ByteArray.size_extract] at *); omega)])
      rotate_left
      ·simp only [Act.put, List.setIfInBounds_toArray, List.set_cons_zero, List.set_cons_succ, i64_w, i32_w]
       rfl
      refine one_ (i := 10) (N := some 29) #[true, true, true, true, true, true, true, true, true, true, true, false] rfl rfl (one_of HT_.out (by kernel_rfl)) (by decide) (fun K hK => ?_)
      refine Kd.R_lit_step (Kd.int .i32) _ 21 ?hg (N := 29) ?hd (xs := ([(rd_T86 t235 x4_1).f1, (rd_T86 t235 x4_1).f2] : List Int)) (inner := [.int .i32 ((rd_T86 t235 x4_1).f1), .int .i32 ((rd_T86 t235 x4_1).f2)]) (ok := fun _ => True) (okp := fun _ => True) ?hr ?hp (fun _ hk => hk) trivial (Below.refl _ _) (Nat.le_refl _) (by simp) ?_; (case hd => rfl); (case hg => rfl); (case hr => first | (go_simp; done) | (go_simp; rfl)); (case hp => exact (Reps.one (show Kd.M (Kd.int .i32) _ _ _ ((rd_T86 t235 x4_1).f1) [.int .i32 ((rd_T86 t235 x4_1).f1)] from rfl) (Reps.one (show Kd.M (Kd.int .i32) _ _ _ ((rd_T86 t235 x4_1).f2) [.int .i32 ((rd_T86 t235 x4_1).f2)] from rfl) (Reps.none _ _))))
      intro v242 w9 ho10 hb hg_ hnew_
      have HS0_ := (hb.cell (World.block_lt_of_cell? _ _ (hHeld.1))).trans (hHeld.1)
      have HS1_ := (hb.cell (World.block_lt_of_cell? _ _ (hHeld.2.1))).trans (hHeld.2.1)
      have HS2_ := (hb.cell (World.block_lt_of_cell? _ _ (hHeld.2.2.1))).trans (hHeld.2.2.1)
      have HS3_ := (hb.cell (World.block_lt_of_cell? _ _ (hHeld.2.2.2.1))).trans (hHeld.2.2.2.1)
      have HS4_ := (hb.cell (World.block_lt_of_cell? _ _ (hHeld.2.2.2.2.1))).trans (hHeld.2.2.2.2.1)
      have HS5_ := (hb.cell (World.block_lt_of_cell? _ _ (hHeld.2.2.2.2.2))).trans (hHeld.2.2.2.2.2)
      clear hg_ hnew_
      (first | rw [← Ny241.out] at ho10 | (simp only [Int.reduceToNat] at ho10; rw [← Ny241.out] at ho10))
      have n0_ := Aside0.mk (Kd.R_below (by (with_reducible repeat (first | apply Kd.R_alloc | apply Kd.R_drewN | apply Kd.R_drew)); exact HO_3.out) hb)
      have n1_ := Aside0.mk (Kd.R_lower ho10 (below_size (by repeat (first | (with_reducible first | exact HB.out | apply below_alloc | apply pw_below_drewN | apply below_drew1) | exact HB.out))))
      have n2_ := Aside0.mk (below_step (by repeat (first | (with_reducible first | exact HB.out | apply below_alloc | apply pw_below_drewN | apply below_drew1) | exact HB.out)) hb)
      clear HO_3
      clear HB
      have HO_3 := n0_
      have HO243 := n1_
      have HB := n2_
      clear n0_ n1_ n2_
      clear hb ho10
      refine hK.out _ _ ⟨HS0_, HS1_, HS2_, HS3_, HS4_, HS5_⟩ (fun hHeld => ?_)
      clear hK K
      refine norm_ (a' := ?_) ?_ ?_
      rotate_left
      ·show Act.put _ (some 29) _ = _
       simp only [Act.put, List.setIfInBounds_toArray, List.set_cons_zero, List.set_cons_succ, i64_w, i32_w]
       rfl
      refine pure_ (i := 11) (N := some 2) (v := ?_) (a' := ?_) #[true, true, true, true, true, true, true, true, true, true, true, true] rfl rfl (any_of HT_.out (by kernel_rfl)) (fun _ _ _ h => h) (Or.inl ⟨by rfl, ?_⟩) ?_ ?_
      rotate_left
      ·intro w'
       go_simp
       first | with_reducible rfl | (rw [if_neg (by (try simp only [ByteArray.size_extract] at *); omega)])
      rotate_left
      ·simp only [Act.put, List.setIfInBounds_toArray, List.set_cons_zero, List.set_cons_succ, i64_w, i32_w]
       rfl
      refine done_ (done_of HT_.out (by kernel_rfl)) ?_
      try go_wp2
      go_ret
      exact ⟨_, by first | rfl | (simp [errW_none, errW_some] <;> rfl) | (simp [*, errW_none, errW_some] <;> rfl), by (with_reducible repeat (first | apply Kd.R_alloc | apply Kd.R_drewN | apply Kd.R_drew)); exact HO243.out, by repeat (first | (with_reducible first | exact HB.out | apply below_alloc | apply pw_below_drewN | apply below_drew1) | exact HB.out)⟩
     ·rw [if_neg c6] at H
      have c6b0 : (((rd_T86 t235 x4_1).f0) == a0) = false := beq_eq_false_iff_ne.mpr c6
      have c6b1 : (((rd_T86 t235 x4_1).f0) != a0) = true := bne_iff_ne.mpr c6
      have H' := Aside0.mk H
      clear H
      obtain ⟨Ao11, co11, eo11⟩ := Kd.R_slice HO_3.out
      subst eo11
      have p238 : 0 ≤ (x4_1 : Int) := of_decide_eq_true (by first | (with_reducible assumption) | assumption)
      have q238 : x4_1 < (t235.length : Int) := of_decide_eq_true (by first | (with_reducible assumption) | assumption)
      obtain ⟨ad238, e238, hx238_0, hx238_1, hx238_2⟩ := at_T86 (Kd.R_reads' HO_3.out).2.2 x4_1 p238 q238
      cases e238
      replace p238 := eq_true p238
      replace q238 := eq_true q238
      go_wp2
      go_roundg k1
      case measure => have := HK1.out; omega
      case rel => exact ⟨(wrap64 (x4_1 + 1)), (by first | rfl | (simp; done) | (simp [*]; done)), H', ⟨by have := HK1.out; omega⟩, ⟨by (with_reducible repeat (first | apply Kd.R_alloc | apply Kd.R_drewN | apply Kd.R_drew)); exact HO_3.out⟩, ⟨by repeat (first | (with_reducible first | exact HB.out | apply below_alloc | apply pw_below_drewN | apply below_drew1) | exact HB.out)⟩⟩
    ·rw [if_neg c5] at H
     exact absurd H (by simp)
   ·rw [if_neg c4] at H
    have c4b0 : decide (x4_1 < (t235.length : Int)) = false := decide_eq_false c4
    clear c4
    by_cases c12 : a0 = 8486
    ·rw [if_pos c12] at H
     have c12b0 : (a0 == 8486) = true := beq_iff_eq.mpr c12
     have c12b1 : (a0 != 8486) = false := bne_eq_false_iff_eq.mpr c12
     clear c12
     obtain ⟨y244, hy244⟩ : ∃ y_ : List Int, y_ = (([937] : List Int)) := ⟨_, rfl⟩
     replace H : (some y244) = some r := by first | (rw [hy244]; with_reducible exact H) | (have H2_ := (Option.bind_some _ _).symm.trans H; rw [hy244]; with_reducible exact H2_) | (have H2_ := (Option.bind_some _ _).symm.trans H; with_reducible exact H2_) | with_reducible exact H | (rw [hy244]; exact H) | exact H
     have Ny244 := Aside0.mk hy244
     clear hy244
     obtain rfl := Option.some.inj H
     obtain ⟨Ao13, co13, eo13⟩ := Kd.R_slice HO_3.out
     subst eo13
     go_wp2_with (first | ((with_reducible refine gate_dst (N := 33) rfl ?_); refine Kd.R_lit (Kd.int .i32) _ 21 ?hg (N := 33) ?hd (xs := ([937] : List Int)) (inner := [.int .i32 937]) (ok := fun _ => True) (okp := fun _ => True) ?hr ?hp (fun _ hk => hk) trivial (Below.refl _ _) (Nat.le_refl _) (by simp) ?_; (case hd => rfl); (case hg => rfl); (case hr => first | (go_simp; done) | (go_simp; rfl)); (case hp => exact (Reps.one (show Kd.M (Kd.int .i32) _ _ _ 937 [.int .i32 937] from rfl) (Reps.none _ _))); intro v245 w14 ho15 hb hg_ hnew_; clear hg_ hnew_; (first | rw [← Ny244.out] at ho15 | (simp only [Int.reduceToNat] at ho15; rw [← Ny244.out] at ho15)); have n0_ := Aside0.mk (Kd.R_below (by (with_reducible repeat (first | apply Kd.R_alloc | apply Kd.R_drewN | apply Kd.R_drew)); exact HO_3.out) hb); have n1_ := Aside0.mk (Kd.R_lower ho15 (below_size (by repeat (first | (with_reducible first | exact HB.out | apply below_alloc | apply pw_below_drewN | apply below_drew1) | exact HB.out)))); have n2_ := Aside0.mk (below_step (by repeat (first | (with_reducible first | exact HB.out | apply below_alloc | apply pw_below_drewN | apply below_drew1) | exact HB.out)) hb); clear HO_3; clear HB; have HO_3 := n0_; have HO246 := n1_; have HB := n2_; clear n0_ n1_ n2_; clear hb ho15))
     go_ret
     exact ⟨_, by first | rfl | (simp [errW_none, errW_some] <;> rfl) | (simp [*, errW_none, errW_some] <;> rfl), by (with_reducible repeat (first | apply Kd.R_alloc | apply Kd.R_drewN | apply Kd.R_drew)); exact HO246.out, by repeat (first | (with_reducible first | exact HB.out | apply below_alloc | apply pw_below_drewN | apply below_drew1) | exact HB.out)⟩
    ·rw [if_neg c12] at H
     have c12b0 : (a0 == 8486) = false := beq_eq_false_iff_ne.mpr c12
     have c12b1 : (a0 != 8486) = true := bne_iff_ne.mpr c12
     by_cases c16 : a0 = 8490
     ·rw [if_pos c16] at H
      have c16b0 : (a0 == 8490) = true := beq_iff_eq.mpr c16
      have c16b1 : (a0 != 8490) = false := bne_eq_false_iff_eq.mpr c16
      clear c16
      obtain ⟨y247, hy247⟩ : ∃ y_ : List Int, y_ = (([75] : List Int)) := ⟨_, rfl⟩
      replace H : (some y247) = some r := by first | (rw [hy247]; with_reducible exact H) | (have H2_ := (Option.bind_some _ _).symm.trans H; rw [hy247]; with_reducible exact H2_) | (have H2_ := (Option.bind_some _ _).symm.trans H; with_reducible exact H2_) | with_reducible exact H | (rw [hy247]; exact H) | exact H
      have Ny247 := Aside0.mk hy247
      clear hy247
      obtain rfl := Option.some.inj H
      obtain ⟨Ao17, co17, eo17⟩ := Kd.R_slice HO_3.out
      subst eo17
      go_wp2_with (first | ((with_reducible refine gate_dst (N := 36) rfl ?_); refine Kd.R_lit (Kd.int .i32) _ 21 ?hg (N := 36) ?hd (xs := ([75] : List Int)) (inner := [.int .i32 75]) (ok := fun _ => True) (okp := fun _ => True) ?hr ?hp (fun _ hk => hk) trivial (Below.refl _ _) (Nat.le_refl _) (by simp) ?_; (case hd => rfl); (case hg => rfl); (case hr => first | (go_simp; done) | (go_simp; rfl)); (case hp => exact (Reps.one (show Kd.M (Kd.int .i32) _ _ _ 75 [.int .i32 75] from rfl) (Reps.none _ _))); intro v248 w18 ho19 hb hg_ hnew_; clear hg_ hnew_; (first | rw [← Ny247.out] at ho19 | (simp only [Int.reduceToNat] at ho19; rw [← Ny247.out] at ho19)); have n0_ := Aside0.mk (Kd.R_below (by (with_reducible repeat (first | apply Kd.R_alloc | apply Kd.R_drewN | apply Kd.R_drew)); exact HO_3.out) hb); have n1_ := Aside0.mk (Kd.R_lower ho19 (below_size (by repeat (first | (with_reducible first | exact HB.out | apply below_alloc | apply pw_below_drewN | apply below_drew1) | exact HB.out)))); have n2_ := Aside0.mk (below_step (by repeat (first | (with_reducible first | exact HB.out | apply below_alloc | apply pw_below_drewN | apply below_drew1) | exact HB.out)) hb); clear HO_3; clear HB; have HO_3 := n0_; have HO249 := n1_; have HB := n2_; clear n0_ n1_ n2_; clear hb ho19))
      go_ret
      exact ⟨_, by first | rfl | (simp [errW_none, errW_some] <;> rfl) | (simp [*, errW_none, errW_some] <;> rfl), by (with_reducible repeat (first | apply Kd.R_alloc | apply Kd.R_drewN | apply Kd.R_drew)); exact HO249.out, by repeat (first | (with_reducible first | exact HB.out | apply below_alloc | apply pw_below_drewN | apply below_drew1) | exact HB.out)⟩
     ·rw [if_neg c16] at H
      have c16b0 : (a0 == 8490) = false := beq_eq_false_iff_ne.mpr c16
      have c16b1 : (a0 != 8490) = true := bne_iff_ne.mpr c16
      by_cases c20 : a0 = 8491
      ·rw [if_pos c20] at H
       have c20b0 : (a0 == 8491) = true := beq_iff_eq.mpr c20
       have c20b1 : (a0 != 8491) = false := bne_eq_false_iff_eq.mpr c20
       clear c20
       obtain ⟨y250, hy250⟩ : ∃ y_ : List Int, y_ = (([197] : List Int)) := ⟨_, rfl⟩
       replace H : (some y250) = some r := by first | (rw [hy250]; with_reducible exact H) | (have H2_ := (Option.bind_some _ _).symm.trans H; rw [hy250]; with_reducible exact H2_) | (have H2_ := (Option.bind_some _ _).symm.trans H; with_reducible exact H2_) | with_reducible exact H | (rw [hy250]; exact H) | exact H
       have Ny250 := Aside0.mk hy250
       clear hy250
       obtain rfl := Option.some.inj H
       obtain ⟨Ao21, co21, eo21⟩ := Kd.R_slice HO_3.out
       subst eo21
       go_wp2_with (first | ((with_reducible refine gate_dst (N := 39) rfl ?_); refine Kd.R_lit (Kd.int .i32) _ 21 ?hg (N := 39) ?hd (xs := ([197] : List Int)) (inner := [.int .i32 197]) (ok := fun _ => True) (okp := fun _ => True) ?hr ?hp (fun _ hk => hk) trivial (Below.refl _ _) (Nat.le_refl _) (by simp) ?_; (case hd => rfl); (case hg => rfl); (case hr => first | (go_simp; done) | (go_simp; rfl)); (case hp => exact (Reps.one (show Kd.M (Kd.int .i32) _ _ _ 197 [.int .i32 197] from rfl) (Reps.none _ _))); intro v251 w22 ho23 hb hg_ hnew_; clear hg_ hnew_; (first | rw [← Ny250.out] at ho23 | (simp only [Int.reduceToNat] at ho23; rw [← Ny250.out] at ho23)); have n0_ := Aside0.mk (Kd.R_below (by (with_reducible repeat (first | apply Kd.R_alloc | apply Kd.R_drewN | apply Kd.R_drew)); exact HO_3.out) hb); have n1_ := Aside0.mk (Kd.R_lower ho23 (below_size (by repeat (first | (with_reducible first | exact HB.out | apply below_alloc | apply pw_below_drewN | apply below_drew1) | exact HB.out)))); have n2_ := Aside0.mk (below_step (by repeat (first | (with_reducible first | exact HB.out | apply below_alloc | apply pw_below_drewN | apply below_drew1) | exact HB.out)) hb); clear HO_3; clear HB; have HO_3 := n0_; have HO252 := n1_; have HB := n2_; clear n0_ n1_ n2_; clear hb ho23))
       go_ret
       exact ⟨_, by first | rfl | (simp [errW_none, errW_some] <;> rfl) | (simp [*, errW_none, errW_some] <;> rfl), by (with_reducible repeat (first | apply Kd.R_alloc | apply Kd.R_drewN | apply Kd.R_drew)); exact HO252.out, by repeat (first | (with_reducible first | exact HB.out | apply below_alloc | apply pw_below_drewN | apply below_drew1) | exact HB.out)⟩
      ·rw [if_neg c20] at H
       have c20b0 : (a0 == 8491) = false := beq_eq_false_iff_ne.mpr c20
       have c20b1 : (a0 != 8491) = true := bne_iff_ne.mpr c20
       obtain rfl := Option.some.inj H
       obtain ⟨Ao24, co24, eo24⟩ := Kd.R_slice HO_3.out
       subst eo24
       go_wp2
       go_ret
       exact ⟨_, by first | rfl | (simp [errW_none, errW_some] <;> rfl) | (simp [*, errW_none, errW_some] <;> rfl), by first | exact Kd.R_nil _ _ _ _ _ | exact Kd.N_nil _ _ _ _ _ | exact Kd.V_nil _ _ _ _ _ | exact Kd.Q_nil _ _ _ _ _ | exact Kd.S_nil _ _ _ _ _, by repeat (first | (with_reducible first | exact HB.out | apply below_alloc | apply pw_below_drewN | apply below_drew1) | exact HB.out)⟩

mutual
def portcullisref04_apart.l0 : Nat → List Int → List Int → Int → Option (List Int)
 | 0, _, _, _ => none
 | k + 1, x3, x4, x5 => if x5 < (x3.length : Int) then (if 0 ≤ x5 then ((portcullisref04_apart.f k (rd x3 x5)).bind fun t260 => (if x4.length + t260.length < 35184372088832 then (portcullisref04_apart.l0 k x3 (x4 ++ t260) (wrap64 (x5 + 1))) else (none))) else (none)) else (some x4)
def portcullisref04_apart.f : Nat → Int → Option (List Int)
 | 0, _ => none
 | k + 1, a0 => (portcullisref03_Decomp.f k a0).bind fun t253 => (if (t253.length : Int) = 0 then (some (([a0] : List Int))) else (portcullisref04_apart.l0 k t253 ([] : List Int) 0))
end
set_option maxHeartbeats 8000000 in
set_option maxRecDepth 100000 in
theorem portcullisref04_apart.calls (k : Nat) : ∀ (a0 : Int) (r : List Int) (w : World) (h : portcullisref04_apart.f k a0 = some r),
  Calls Tryd.prog 48 #[.int .i32 a0] w fun e w' => ∃ v0_ : Value, e = .returned (v0_) ∧ Kd.R (Kd.int .i32) 21 w' w.heap.size (fun _ => True) v0_ r ∧ Below w.heap.size w w' := by
 induction k using Nat.strongRecOn with
 | _ k ih =>
 intro a0 r w h
 cases k with
 | zero => exact absurd h (by simp [portcullisref04_apart.f])
 | succ k =>
 simp only [portcullisref04_apart.f] at h
 have HB := Aside0.mk (Below.refl w.heap.size w)
 have H : ((portcullisref03_Decomp.f k a0).bind fun t253 => (if (t253.length : Int) = 0 then (some (([a0] : List Int))) else (portcullisref04_apart.l0 k t253 ([] : List Int) 0))) = some r := h
 clear h
 replace H := Option.bind_eq_some_iff.mp H
 obtain ⟨t253, A20, H⟩ := H
 replace H : (if (t253.length : Int) = 0 then (some (([a0] : List Int))) else (portcullisref04_apart.l0 k t253 ([] : List Int) 0)) = some r := H
 have A2 := Aside0.mk A20
 clear A20
 by_cases c3 : (t253.length : Int) = 0
 ·rw [if_pos c3] at H
  have c3b0 : ((t253.length : Int) == 0) = true := beq_iff_eq.mpr c3
  have c3b1 : ((t253.length : Int) != 0) = false := bne_eq_false_iff_eq.mpr c3
  clear c3
  obtain ⟨y256, hy256⟩ : ∃ y_ : List Int, y_ = (([a0] : List Int)) := ⟨_, rfl⟩
  replace H : (some y256) = some r := by first | (rw [hy256]; with_reducible exact H) | (have H2_ := (Option.bind_some _ _).symm.trans H; rw [hy256]; with_reducible exact H2_) | (have H2_ := (Option.bind_some _ _).symm.trans H; with_reducible exact H2_) | with_reducible exact H | (rw [hy256]; exact H) | exact H
  have Ny256 := Aside0.mk hy256
  clear hy256
  obtain rfl := Option.some.inj H
  go_enter Tryd.func48, Tryd.ntmps48
  go_wp2_with (first | ((with_reducible refine gate_callee (f := 68) rfl ?_); refine goesL_ (some 8) rfl rfl Tryd.func68 (by kernel_rfl) rfl #[.int .i32 a0] rfl (by (try simp only [List.map_toArray, List.map_cons, List.map_nil]); first | done | rfl | (simp only [List.length_drop, List.length_take]; rfl)) ?_; (with_reducible refine (portcullisref03_Decomp.calls k a0 t253 _ A2.out).mono ?_); rintro e w4 ⟨v254, rfl, ho0, hb⟩; refine ⟨_, rfl, ?_⟩; have n0_ := Aside0.mk (Kd.R_lower ho0 (below_size (by repeat (first | (with_reducible first | exact HB.out | apply below_alloc | apply pw_below_drewN | apply below_drew1) | exact HB.out)))); have n1_ := Aside0.mk (below_step (by repeat (first | (with_reducible first | exact HB.out | apply below_alloc | apply pw_below_drewN | apply below_drew1) | exact HB.out)) hb); clear HB; have HO255 := n0_; have HB := n1_; clear n0_ n1_; (try clear hb); (try clear hb2); (try clear hk); (try clear hi); (try clear ho0); obtain ⟨Ao5, co5, eo5⟩ := Kd.R_slice HO255.out; subst eo5) | ((with_reducible refine gate_dst (N := 13) rfl ?_); refine Kd.R_lit (Kd.int .i32) _ 21 ?hg (N := 13) ?hd (xs := ([a0] : List Int)) (inner := [.int .i32 a0]) (ok := fun _ => True) (okp := fun _ => True) ?hr ?hp (fun _ hk => hk) trivial (Below.refl _ _) (Nat.le_refl _) (by simp) ?_; (case hd => rfl); (case hg => rfl); (case hr => first | (go_simp; done) | (go_simp; rfl)); (case hp => exact (Reps.one (show Kd.M (Kd.int .i32) _ _ _ a0 [.int .i32 a0] from rfl) (Reps.none _ _))); intro v257 w6 ho7 hb hg_ hnew_; clear hg_ hnew_; (first | rw [← Ny256.out] at ho7 | (simp only [Int.reduceToNat] at ho7; rw [← Ny256.out] at ho7)); have n0_ := Aside0.mk (Kd.R_elder' (by (with_reducible repeat (first | apply Kd.R_alloc | apply Kd.R_drewN | apply Kd.R_drew)); exact HO255.out) (Kd.R_base ho7) hb); have n1_ := Aside0.mk (Kd.R_lower (Kd.R_new' ho7 (Kd.R_lt (by (with_reducible repeat (first | apply Kd.R_alloc | apply Kd.R_drewN | apply Kd.R_drew)); exact HO255.out))) (below_size (by repeat (first | (with_reducible first | exact HB.out | apply below_alloc | apply pw_below_drewN | apply below_drew1) | exact HB.out)))); have n2_ := Aside0.mk (below_step (by repeat (first | (with_reducible first | exact HB.out | apply below_alloc | apply pw_below_drewN | apply below_drew1) | exact HB.out)) hb); clear HO255; clear HB; have HO255 := n0_; have HO258 := n1_; have HB := n2_; clear n0_ n1_ n2_; clear hb ho7))
  go_ret
  exact ⟨_, by first | rfl | (simp [errW_none, errW_some] <;> rfl) | (simp [*, errW_none, errW_some] <;> rfl), by (with_reducible repeat (first | apply Kd.R_alloc | apply Kd.R_drewN | apply Kd.R_drew)); exact Kd.R_mono HO258.out (fun _ hk => trivial), by repeat (first | (with_reducible first | exact HB.out | apply below_alloc | apply pw_below_drewN | apply below_drew1) | exact HB.out)⟩
 ·rw [if_neg c3] at H
  have c3b0 : ((t253.length : Int) == 0) = false := beq_eq_false_iff_ne.mpr c3
  have c3b1 : ((t253.length : Int) != 0) = true := bne_iff_ne.mpr c3
  have c3b2 : ¬ (t253 = []) := fun h_ => c3 (by rw [h_]; rfl)
  have H' := Aside0.mk H
  clear H
  go_enter Tryd.func48, Tryd.ntmps48
  go_wp2_with (first | ((with_reducible refine gate_callee (f := 68) rfl ?_); refine goesL_ (some 8) rfl rfl Tryd.func68 (by kernel_rfl) rfl #[.int .i32 a0] rfl (by (try simp only [List.map_toArray, List.map_cons, List.map_nil]); first | done | rfl | (simp only [List.length_drop, List.length_take]; rfl)) ?_; (with_reducible refine (portcullisref03_Decomp.calls k a0 t253 _ A2.out).mono ?_); rintro e w8 ⟨v254, rfl, ho0, hb⟩; refine ⟨_, rfl, ?_⟩; have n0_ := Aside0.mk (Kd.R_lower ho0 (below_size (by repeat (first | (with_reducible first | exact HB.out | apply below_alloc | apply pw_below_drewN | apply below_drew1) | exact HB.out)))); have n1_ := Aside0.mk (below_step (by repeat (first | (with_reducible first | exact HB.out | apply below_alloc | apply pw_below_drewN | apply below_drew1) | exact HB.out)) hb); clear HB; have HO255 := n0_; have HB := n1_; clear n0_ n1_; (try clear hb); (try clear hb2); (try clear hk); (try clear hi); (try clear ho0); obtain ⟨Ao9, co9, eo9⟩ := Kd.R_slice HO255.out; subst eo9))
  go_loopg [4, 5] k (fun kq v4 v5 w' => ∃ (x4_1 : List Int) (x5_1 : Int), v5 = .int .i64 x5_1 ∧ Aside0 (portcullisref04_apart.l0 kq t253 x4_1 x5_1 = some r) ∧ Aside0 (kq ≤ k) ∧ Aside0 (Kd.R (Kd.int .i32) 21 w' w.heap.size (fun k_ => some k_ ≠ (v4 : Value).ownBlock) (.slice Ao9 t253.length co9) t253) ∧ Aside0 (Kd.R (Kd.int .i32) 21 w' w.heap.size (fun k_ => some k_ ≠ ((.slice Ao9 t253.length co9) : Value).ownBlock) v4 x4_1) ∧ Aside0 (Below w.heap.size w w'))
  case atStart => exact ⟨(([] : List Int)), (0), (by first | rfl | (simp; done) | (simp [*]; done)), H', ⟨Nat.le_refl _⟩, ⟨by (with_reducible repeat (first | apply Kd.R_alloc | apply Kd.R_drewN | apply Kd.R_drew)); exact Kd.R_mono HO255.out (fun _ hk => (by simp [Value.ownBlock]))⟩, ⟨by first | exact Kd.R_nil _ _ _ _ _ | exact Kd.N_nil _ _ _ _ _ | exact Kd.V_nil _ _ _ _ _ | exact Kd.Q_nil _ _ _ _ _ | exact Kd.S_nil _ _ _ _ _⟩, ⟨by repeat (first | (with_reducible first | exact HB.out | apply below_alloc | apply pw_below_drewN | apply below_drew1) | exact HB.out)⟩⟩
  case round =>
   clear H'
   try clear p2
   try clear c3
   try clear c3b0
   try clear c3b1
   try clear c3b2
   try clear c4
   try clear c6
   obtain ⟨x4_1, x5_1, rfl, HA, HK1, HO_3, HO_4, HB⟩ := hrel
   cases gk with
   | zero => exact absurd HA.out (by simp [portcullisref04_apart.l0])
   | succ k1 =>
    have H := HA.out
    clear HA
    simp only [portcullisref04_apart.l0] at H
    by_cases c10 : x5_1 < (t253.length : Int)
    ·rw [if_pos c10] at H
     have c10b0 : decide (x5_1 < (t253.length : Int)) = true := decide_eq_true c10
     clear c10
     by_cases c11 : 0 ≤ x5_1
     ·rw [if_pos c11] at H
      have c11b0 : decide (0 ≤ x5_1) = true := decide_eq_true c11
      clear c11
      replace H := Option.bind_eq_some_iff.mp H
      obtain ⟨t260, A120, H⟩ := H
      replace H : (if x4_1.length + t260.length < 35184372088832 then (portcullisref04_apart.l0 k1 t253 (x4_1 ++ t260) (wrap64 (x5_1 + 1))) else (none)) = some r := H
      have A12 := Aside0.mk A120
      clear A120
      by_cases c13 : x4_1.length + t260.length < 35184372088832
      ·rw [if_pos c13] at H
       have LMc13 := Aside0.mk c13
       clear c13
       obtain ⟨y263, hy263⟩ : ∃ y_ : List Int, y_ = (x4_1 ++ t260) := ⟨_, rfl⟩
       replace H : (portcullisref04_apart.l0 k1 t253 y263 (wrap64 (x5_1 + 1))) = some r := by first | (rw [hy263]; with_reducible exact H) | (have H2_ := (Option.bind_some _ _).symm.trans H; rw [hy263]; with_reducible exact H2_) | (have H2_ := (Option.bind_some _ _).symm.trans H; with_reducible exact H2_) | with_reducible exact H | (rw [hy263]; exact H) | exact H
       have Ny263 := Aside0.mk hy263
       clear hy263
       have H' := Aside0.mk H
       clear H
       have p259 : 0 ≤ (x5_1 : Int) := of_decide_eq_true (by first | (with_reducible assumption) | assumption)
       have q259 : x5_1 < (t253.length : Int) := of_decide_eq_true (by first | (with_reducible assumption) | assumption)
       obtain ⟨ad259, e259, hx259_0⟩ := Kd.at_int (Kd.R_reads' HO_3.out).2.2 x5_1 p259 q259
       cases e259
       replace p259 := eq_true p259
       replace q259 := eq_true q259
       go_wp2_with (first | ((with_reducible refine gate_callee (f := 48) rfl ?_); refine goesL_ (some 24) rfl rfl Tryd.func48 (by kernel_rfl) rfl #[.int .i32 (rd t253 x5_1)] rfl (by (try simp only [List.map_toArray, List.map_cons, List.map_nil]); first | done | rfl | (simp only [List.length_drop, List.length_take]; rfl)) ?_; (with_reducible refine (ih k1 (by have := HK1.out; omega) (rd t253 x5_1) t260 _ A12.out).mono ?_); rintro e w14 ⟨v261, rfl, ho0, hb⟩; refine ⟨_, rfl, ?_⟩; have n0_ := Aside0.mk (Kd.R_elder' (by (with_reducible repeat (first | apply Kd.R_alloc | apply Kd.R_drewN | apply Kd.R_drew)); exact HO_3.out) (Kd.R_base ho0) hb); have n1_ := Aside0.mk (Kd.R_elder' (by (with_reducible repeat (first | apply Kd.R_alloc | apply Kd.R_drewN | apply Kd.R_drew)); exact HO_4.out) (Kd.R_base ho0) hb); have n2_ := Aside0.mk (Kd.R_lower (Kd.R_new' (Kd.R_new' ho0 (Kd.R_lt (by (with_reducible repeat (first | apply Kd.R_alloc | apply Kd.R_drewN | apply Kd.R_drew)); exact HO_3.out))) (Kd.R_lt (by (with_reducible repeat (first | apply Kd.R_alloc | apply Kd.R_drewN | apply Kd.R_drew)); exact HO_4.out))) (below_size (by repeat (first | (with_reducible first | exact HB.out | apply below_alloc | apply pw_below_drewN | apply below_drew1) | exact HB.out)))); have n3_ := Aside0.mk (below_step (by repeat (first | (with_reducible first | exact HB.out | apply below_alloc | apply pw_below_drewN | apply below_drew1) | exact HB.out)) hb); clear HO_3; clear HO_4; clear HB; have HO_3 := n0_; have HO_4 := n1_; have HO262 := n2_; have HB := n3_; clear n0_ n1_ n2_ n3_; (try clear hb); (try clear hb2); (try clear hk); (try clear hi); (try clear ho0); obtain ⟨Ao16, co16, eo16⟩ := Kd.R_slice HO262.out; subst eo16) | ((with_reducible refine gate_builtin (b := .append) (xs := #[.tmp 25, .tmp 26]) rfl ?_); at_builtin; refine Kd.R_append_rows (Kd.int .i32) (w0 := w) w.heap.size rfl (.tmp 25) (.tmp 26) 38 21 (.int .i32 0) 4 rfl Tryd.underlying38 info21 rfl (by decide) (by omega) u4 x4_1 t260 _ _ _ (fun k_ => some k_ ≠ (.slice (some ad259) t253.length co9 : Value).ownBlock ∧ some k_ ≠ (.slice Ao16 t260.length co16 : Value).ownBlock) (fun _ => False) rfl rfl ?aO ?aR (fun _ _ h => h) (fun _ h => h.elim) ?aF ?aB ?aS ?aL ?_; (case aR => repeat (first | exact (Kd.R_reads' HO262.out).2.2 | (with_reducible refine Kd.C_alloc ?_ _) | (with_reducible refine Kd.C_drewN ?_ _) | (with_reducible refine Kd.C_drew ?_))); (case aB => exact (by repeat (first | (with_reducible first | exact HB.out | apply below_alloc | apply pw_below_drewN | apply below_drew1) | exact HB.out))); (case aF => exact (fun k_ hk => ⟨Kd.fresh' (Kd.R_lt (by (with_reducible repeat (first | apply Kd.R_alloc | apply Kd.R_drewN | apply Kd.R_drew)); exact HO_3.out)) k_ hk, Kd.fresh' (Kd.R_lt (by (with_reducible repeat (first | apply Kd.R_alloc | apply Kd.R_drewN | apply Kd.R_drew)); exact HO262.out)) k_ hk⟩)); (case aO => exact (by (with_reducible repeat (first | apply Kd.R_alloc | apply Kd.R_drewN | apply Kd.R_drew)); exact HO_4.out)); (case aS => exact (below_size (by repeat (first | (with_reducible first | exact HB.out | apply below_alloc | apply pw_below_drewN | apply below_drew1) | exact HB.out)))); (case aL => have := LMc13.out; omega); intro v264 w15 ho hb hg hat; rw [← Ny263.out] at ho; have n0_ := Aside0.mk (Kd.R_after (ok := (fun k_ => some k_ ≠ (.slice Ao16 t260.length co16 : Value).ownBlock)) (by (with_reducible repeat (first | apply Kd.R_alloc | apply Kd.R_drewN | apply Kd.R_drew)); exact Kd.R_mono HO_3.out (fun _ hk => ⟨hk.2, hk.1⟩)) hg hat); have n1_ := Aside0.mk (Kd.R_after (ok := (fun k_ => some k_ ≠ (.slice (some ad259) t253.length co9 : Value).ownBlock)) (by (with_reducible repeat (first | apply Kd.R_alloc | apply Kd.R_drewN | apply Kd.R_drew)); exact Kd.R_mono HO262.out (fun _ hk => ⟨hk.1.2, hk.2⟩)) hg hat); have n2_ := Aside0.mk (hb); have n3_ := Aside0.mk (ho); clear HO_3; clear HO262; clear HB; clear HO_4; have HO_3 := n0_; have HO262 := n1_; have HB := n2_; have HO265 := n3_; clear n0_ n1_ n2_ n3_; clear ho hb hg hat))
       go_roundg k1
       case measure => have := HK1.out; omega
       case rel => exact ⟨(y263), (wrap64 (x5_1 + 1)), (by first | rfl | (simp; done) | (simp [*]; done)), H', ⟨by have := HK1.out; omega⟩, ⟨by (with_reducible repeat (first | apply Kd.R_alloc | apply Kd.R_drewN | apply Kd.R_drew)); exact Kd.R_mono HO_3.out (fun _ hk => hk.2)⟩, ⟨by (with_reducible repeat (first | apply Kd.R_alloc | apply Kd.R_drewN | apply Kd.R_drew)); exact Kd.R_mono HO265.out (fun _ hk => hk.1)⟩, ⟨by repeat (first | (with_reducible first | exact HB.out | apply below_alloc | apply pw_below_drewN | apply below_drew1) | exact HB.out)⟩⟩
      ·rw [if_neg c13] at H
       exact absurd H (by simp)
     ·rw [if_neg c11] at H
      exact absurd H (by simp)
    ·rw [if_neg c10] at H
     have c10b0 : decide (x5_1 < (t253.length : Int)) = false := decide_eq_false c10
     clear c10
     obtain rfl := Option.some.inj H
     go_wp2
     go_ret
     exact ⟨_, by first | rfl | (simp [errW_none, errW_some] <;> rfl) | (simp [*, errW_none, errW_some] <;> rfl), by (with_reducible repeat (first | apply Kd.R_alloc | apply Kd.R_drewN | apply Kd.R_drew)); exact Kd.R_mono HO_4.out (fun _ hk => trivial), by repeat (first | (with_reducible first | exact HB.out | apply below_alloc | apply pw_below_drewN | apply below_drew1) | exact HB.out)⟩

def portcullisref03_Rows.f  : Option ((List (S52))) := (portcullisref03_rows0.f).bind fun t266 => ((portcullisref03_rows1.f).bind fun t269 => (if t266.length + t269.length < 4398046511104 then ((some (t266 ++ t269 : List (S52))).bind fun y272 => ((portcullisref03_rows2.f).bind fun t275 => (if y272.length + t275.length < 4398046511104 then (some (y272 ++ t275)) else (none)))) else (none)))
set_option maxHeartbeats 8000000 in
set_option maxRecDepth 100000 in
theorem portcullisref03_Rows.calls  (r : List (S52)) (w : World) (h : portcullisref03_Rows.f  = some r) :
  Calls Tryd.prog 52 #[] w fun e w' => ∃ v0_ : Value, e = .returned (v0_) ∧ Kd.R k52 52 w' w.heap.size (fun _ => True) v0_ r ∧ Below w.heap.size w w' := by
 have HB := Aside0.mk (Below.refl w.heap.size w)
 have H : ((portcullisref03_rows0.f).bind fun t266 => ((portcullisref03_rows1.f).bind fun t269 => (if t266.length + t269.length < 4398046511104 then ((some (t266 ++ t269 : List (S52))).bind fun y272 => ((portcullisref03_rows2.f).bind fun t275 => (if y272.length + t275.length < 4398046511104 then (some (y272 ++ t275)) else (none)))) else (none)))) = some r := h
 clear h
 replace H := Option.bind_eq_some_iff.mp H
 obtain ⟨t266, A10, H⟩ := H
 replace H : ((portcullisref03_rows1.f).bind fun t269 => (if t266.length + t269.length < 4398046511104 then ((some (t266 ++ t269 : List (S52))).bind fun y272 => ((portcullisref03_rows2.f).bind fun t275 => (if y272.length + t275.length < 4398046511104 then (some (y272 ++ t275)) else (none)))) else (none))) = some r := H
 have A1 := Aside0.mk A10
 clear A10
 replace H := Option.bind_eq_some_iff.mp H
 obtain ⟨t269, A20, H⟩ := H
 replace H : (if t266.length + t269.length < 4398046511104 then ((some (t266 ++ t269 : List (S52))).bind fun y272 => ((portcullisref03_rows2.f).bind fun t275 => (if y272.length + t275.length < 4398046511104 then (some (y272 ++ t275)) else (none)))) else (none)) = some r := H
 have A2 := Aside0.mk A20
 clear A20
 by_cases c3 : t266.length + t269.length < 4398046511104
 ·rw [if_pos c3] at H
  have LMc3 := Aside0.mk c3
  clear c3
  obtain ⟨y272, hy272⟩ : ∃ y_ : List (S52), y_ = (t266 ++ t269) := ⟨_, rfl⟩
  replace H : ((portcullisref03_rows2.f).bind fun t275 => (if y272.length + t275.length < 4398046511104 then (some (y272 ++ t275)) else (none))) = some r := by first | (rw [hy272]; with_reducible exact H) | (have H2_ := (Option.bind_some _ _).symm.trans H; rw [hy272]; with_reducible exact H2_) | (have H2_ := (Option.bind_some _ _).symm.trans H; with_reducible exact H2_) | with_reducible exact H | (rw [hy272]; exact H) | exact H
  have Ny272 := Aside0.mk hy272
  clear hy272
  replace H := Option.bind_eq_some_iff.mp H
  obtain ⟨t275, A40, H⟩ := H
  replace H : (if y272.length + t275.length < 4398046511104 then (some (y272 ++ t275)) else (none)) = some r := H
  have A4 := Aside0.mk A40
  clear A40
  by_cases c5 : y272.length + t275.length < 4398046511104
  ·rw [if_pos c5] at H
   have LMc5 := Aside0.mk c5
   clear c5
   obtain ⟨y278, hy278⟩ : ∃ y_ : List (S52), y_ = (y272 ++ t275) := ⟨_, rfl⟩
   replace H : (some y278) = some r := by first | (rw [hy278]; with_reducible exact H) | (have H2_ := (Option.bind_some _ _).symm.trans H; rw [hy278]; with_reducible exact H2_) | (have H2_ := (Option.bind_some _ _).symm.trans H; with_reducible exact H2_) | with_reducible exact H | (rw [hy278]; exact H) | exact H
   have Ny278 := Aside0.mk hy278
   clear hy278
   obtain rfl := Option.some.inj H
   go_enter Tryd.func52, Tryd.ntmps52
   go_wp2_with (first | ((with_reducible refine gate_callee (f := 70) rfl ?_); refine goesL_ (some 2) rfl rfl Tryd.func70 (by kernel_rfl) rfl #[] rfl (by (try simp only [List.map_toArray, List.map_cons, List.map_nil]); first | done | rfl | (simp only [List.length_drop, List.length_take]; rfl)) ?_; (with_reducible refine (portcullisref03_rows0.calls  t266 _ A1.out).mono ?_); rintro e w6 ⟨v267, rfl, ho0, hb⟩; refine ⟨_, rfl, ?_⟩; have n0_ := Aside0.mk (Kd.R_lower ho0 (below_size (by repeat (first | (with_reducible first | exact HB.out | apply below_alloc | apply pw_below_drewN | apply below_drew1) | exact HB.out)))); have n1_ := Aside0.mk (below_step (by repeat (first | (with_reducible first | exact HB.out | apply below_alloc | apply pw_below_drewN | apply below_drew1) | exact HB.out)) hb); clear HB; have HO268 := n0_; have HB := n1_; clear n0_ n1_; (try clear hb); (try clear hb2); (try clear hk); (try clear hi); (try clear ho0)) | ((with_reducible refine gate_callee (f := 71) rfl ?_); refine goesL_ (some 4) rfl rfl Tryd.func71 (by kernel_rfl) rfl #[] rfl (by (try simp only [List.map_toArray, List.map_cons, List.map_nil]); first | done | rfl | (simp only [List.length_drop, List.length_take]; rfl)) ?_; (with_reducible refine (portcullisref03_rows1.calls  t269 _ A2.out).mono ?_); rintro e w7 ⟨v270, rfl, ho0, hb⟩; refine ⟨_, rfl, ?_⟩; have n0_ := Aside0.mk (Kd.R_elder' (by (with_reducible repeat (first | apply Kd.R_alloc | apply Kd.R_drewN | apply Kd.R_drew)); exact HO268.out) (Kd.R_base ho0) hb); have n1_ := Aside0.mk (Kd.R_lower (Kd.R_new' ho0 (Kd.R_lt (by (with_reducible repeat (first | apply Kd.R_alloc | apply Kd.R_drewN | apply Kd.R_drew)); exact HO268.out))) (below_size (by repeat (first | (with_reducible first | exact HB.out | apply below_alloc | apply pw_below_drewN | apply below_drew1) | exact HB.out)))); have n2_ := Aside0.mk (below_step (by repeat (first | (with_reducible first | exact HB.out | apply below_alloc | apply pw_below_drewN | apply below_drew1) | exact HB.out)) hb); clear HO268; clear HB; have HO268 := n0_; have HO271 := n1_; have HB := n2_; clear n0_ n1_ n2_; (try clear hb); (try clear hb2); (try clear hk); (try clear hi); (try clear ho0); obtain ⟨Ao9, co9, eo9⟩ := Kd.R_slice HO271.out; subst eo9) | ((with_reducible refine gate_builtin (b := .append) (xs := #[.tmp 3, .tmp 4]) rfl ?_); at_builtin; refine Kd.R_append_rows k52 (w0 := w) w.heap.size rfl (.tmp 3) (.tmp 4) 75 52 (.agg #[(.int .i32 0), (.int .i32 0), (.int .u8 0), (.int .i32 0), (.int .i32 0), (.int .i32 0), (.int .u8 0), (.int .u8 0), (.int .u8 0), (.bool false), (.int .u8 0)]) 32 rfl Tryd.underlying75 info52 rfl (by decide) (by omega) v267 t266 t269 _ _ _ (fun k_ => some k_ ≠ (.slice Ao9 t269.length co9 : Value).ownBlock) (fun _ => False) rfl rfl ?aO ?aR (fun _ _ h => h) (fun _ h => h.elim) ?aF ?aB ?aS ?aL ?_; (case aR => repeat (first | exact (Kd.R_reads' HO271.out).2.2 | (with_reducible refine Kd.C_alloc ?_ _) | (with_reducible refine Kd.C_drewN ?_ _) | (with_reducible refine Kd.C_drew ?_))); (case aB => exact (by repeat (first | (with_reducible first | exact HB.out | apply below_alloc | apply pw_below_drewN | apply below_drew1) | exact HB.out))); (case aF => exact (fun k_ hk => Kd.fresh' (Kd.R_lt (by (with_reducible repeat (first | apply Kd.R_alloc | apply Kd.R_drewN | apply Kd.R_drew)); exact HO271.out)) k_ hk)); (case aO => exact (by (with_reducible repeat (first | apply Kd.R_alloc | apply Kd.R_drewN | apply Kd.R_drew)); exact Kd.R_mono HO268.out (fun _ hk => hk.2))); (case aS => exact (below_size (by repeat (first | (with_reducible first | exact HB.out | apply below_alloc | apply pw_below_drewN | apply below_drew1) | exact HB.out)))); (case aL => have := LMc3.out; omega); intro v273 w8 ho hb hg hat; rw [← Ny272.out] at ho; have n0_ := Aside0.mk (Kd.R_after (ok := (fun _ => True)) (by (with_reducible repeat (first | apply Kd.R_alloc | apply Kd.R_drewN | apply Kd.R_drew)); exact HO271.out) hg hat); have n1_ := Aside0.mk (hb); have n2_ := Aside0.mk (ho); clear HO271; clear HB; clear HO268; have HO271 := n0_; have HB := n1_; have HO274 := n2_; clear n0_ n1_ n2_; clear ho hb hg hat) | ((with_reducible refine gate_callee (f := 72) rfl ?_); refine goesL_ (some 7) rfl rfl Tryd.func72 (by kernel_rfl) rfl #[] rfl (by (try simp only [List.map_toArray, List.map_cons, List.map_nil]); first | done | rfl | (simp only [List.length_drop, List.length_take]; rfl)) ?_; (with_reducible refine (portcullisref03_rows2.calls  t275 _ A4.out).mono ?_); rintro e w10 ⟨v276, rfl, ho0, hb⟩; refine ⟨_, rfl, ?_⟩; have n0_ := Aside0.mk (Kd.R_elder' (by (with_reducible repeat (first | apply Kd.R_alloc | apply Kd.R_drewN | apply Kd.R_drew)); exact HO271.out) (Kd.R_base ho0) hb); have n1_ := Aside0.mk (Kd.R_elder' (by (with_reducible repeat (first | apply Kd.R_alloc | apply Kd.R_drewN | apply Kd.R_drew)); exact HO274.out) (Kd.R_base ho0) hb); have n2_ := Aside0.mk (Kd.R_lower (Kd.R_new' (Kd.R_new' ho0 (Kd.R_lt (by (with_reducible repeat (first | apply Kd.R_alloc | apply Kd.R_drewN | apply Kd.R_drew)); exact HO271.out))) (Kd.R_lt (by (with_reducible repeat (first | apply Kd.R_alloc | apply Kd.R_drewN | apply Kd.R_drew)); exact HO274.out))) (below_size (by repeat (first | (with_reducible first | exact HB.out | apply below_alloc | apply pw_below_drewN | apply below_drew1) | exact HB.out)))); have n3_ := Aside0.mk (below_step (by repeat (first | (with_reducible first | exact HB.out | apply below_alloc | apply pw_below_drewN | apply below_drew1) | exact HB.out)) hb); clear HO271; clear HO274; clear HB; have HO271 := n0_; have HO274 := n1_; have HO277 := n2_; have HB := n3_; clear n0_ n1_ n2_ n3_; (try clear hb); (try clear hb2); (try clear hk); (try clear hi); (try clear ho0); obtain ⟨Ao12, co12, eo12⟩ := Kd.R_slice HO277.out; subst eo12) | ((with_reducible refine gate_builtin (b := .append) (xs := #[.tmp 6, .tmp 7]) rfl ?_); at_builtin; refine Kd.R_append_rows k52 (w0 := w) w.heap.size rfl (.tmp 6) (.tmp 7) 75 52 (.agg #[(.int .i32 0), (.int .i32 0), (.int .u8 0), (.int .i32 0), (.int .i32 0), (.int .i32 0), (.int .u8 0), (.int .u8 0), (.int .u8 0), (.bool false), (.int .u8 0)]) 32 rfl Tryd.underlying75 info52 rfl (by decide) (by omega) v273 y272 t275 _ _ _ (fun k_ => some k_ ≠ (.slice Ao9 t269.length co9 : Value).ownBlock ∧ some k_ ≠ (.slice Ao12 t275.length co12 : Value).ownBlock) (fun _ => False) rfl rfl ?aO ?aR (fun _ _ h => h) (fun _ h => h.elim) ?aF ?aB ?aS ?aL ?_; (case aR => repeat (first | exact (Kd.R_reads' HO277.out).2.2 | (with_reducible refine Kd.C_alloc ?_ _) | (with_reducible refine Kd.C_drewN ?_ _) | (with_reducible refine Kd.C_drew ?_))); (case aB => exact (by repeat (first | (with_reducible first | exact HB.out | apply below_alloc | apply pw_below_drewN | apply below_drew1) | exact HB.out))); (case aF => exact (fun k_ hk => ⟨Kd.fresh' (Kd.R_lt (by (with_reducible repeat (first | apply Kd.R_alloc | apply Kd.R_drewN | apply Kd.R_drew)); exact HO271.out)) k_ hk, Kd.fresh' (Kd.R_lt (by (with_reducible repeat (first | apply Kd.R_alloc | apply Kd.R_drewN | apply Kd.R_drew)); exact HO277.out)) k_ hk⟩)); (case aO => exact (by (with_reducible repeat (first | apply Kd.R_alloc | apply Kd.R_drewN | apply Kd.R_drew)); exact HO274.out)); (case aS => exact (below_size (by repeat (first | (with_reducible first | exact HB.out | apply below_alloc | apply pw_below_drewN | apply below_drew1) | exact HB.out)))); (case aL => have := LMc5.out; omega); intro v279 w11 ho hb hg hat; rw [← Ny278.out] at ho; have n0_ := Aside0.mk (Kd.R_after (ok := (fun k_ => some k_ ≠ (.slice Ao12 t275.length co12 : Value).ownBlock)) (by (with_reducible repeat (first | apply Kd.R_alloc | apply Kd.R_drewN | apply Kd.R_drew)); exact Kd.R_mono HO271.out (fun _ hk => ⟨hk.2, hk.1.2⟩)) hg hat); have n1_ := Aside0.mk (Kd.R_after (ok := (fun k_ => some k_ ≠ (.slice Ao9 t269.length co9 : Value).ownBlock)) (by (with_reducible repeat (first | apply Kd.R_alloc | apply Kd.R_drewN | apply Kd.R_drew)); exact Kd.R_mono HO277.out (fun _ hk => ⟨hk.1.2, hk.2⟩)) hg hat); have n2_ := Aside0.mk (hb); have n3_ := Aside0.mk (ho); clear HO271; clear HO277; clear HB; clear HO274; have HO271 := n0_; have HO277 := n1_; have HB := n2_; have HO280 := n3_; clear n0_ n1_ n2_ n3_; clear ho hb hg hat))
   go_ret
   exact ⟨_, by first | rfl | (simp [errW_none, errW_some] <;> rfl) | (simp [*, errW_none, errW_some] <;> rfl), by (with_reducible repeat (first | apply Kd.R_alloc | apply Kd.R_drewN | apply Kd.R_drew)); exact Kd.R_mono HO280.out (fun _ hk => trivial), by repeat (first | (with_reducible first | exact HB.out | apply below_alloc | apply pw_below_drewN | apply below_drew1) | exact HB.out)⟩
  ·rw [if_neg c5] at H
   exact absurd H (by simp)
 ·rw [if_neg c3] at H
  exact absurd H (by simp)

def portcullisref03_Find.l0 : Nat → Int → List (S52) → Int → Option (Int × Int × Int × Int × Int × Int × Int × Int × Int × Bool × Int)
 | 0, _, _, _ => none
 | k + 1, x0, x3, x4 => if x4 < (x3.length : Int) then (if 0 ≤ x4 then (if ((rd_T52 x3 x4).f0) ≤ x0 then (if x0 ≤ ((rd_T52 x3 x4).f1) then (some ((rd_T52 x3 x4).f0, (rd_T52 x3 x4).f1, (rd_T52 x3 x4).f2, (rd_T52 x3 x4).f3, (rd_T52 x3 x4).f4, (rd_T52 x3 x4).f5, (rd_T52 x3 x4).f6, (rd_T52 x3 x4).f7, (rd_T52 x3 x4).f8, (rd_T52 x3 x4).f9, (rd_T52 x3 x4).f10)) else (portcullisref03_Find.l0 k x0 x3 (wrap64 (x4 + 1)))) else (portcullisref03_Find.l0 k x0 x3 (wrap64 (x4 + 1)))) else (none)) else (some (0, 0, 0, 0, 0, 0, 0, 0, 0, false, 0))
def portcullisref03_Find.f (k : Nat) (a0 : Int) : Option (Int × Int × Int × Int × Int × Int × Int × Int × Int × Bool × Int) := (portcullisref03_Rows.f).bind fun t282 => (portcullisref03_Find.l0 k a0 t282 0)
theorem portcullisref03_Find.mono_l : ∀ k, (∀ y0 y1 y2, LeO (portcullisref03_Find.l0 k y0 y1 y2) (portcullisref03_Find.l0 (k + 1) y0 y1 y2))
 | 0 => fun _ _ _ r h => by simp [portcullisref03_Find.l0] at h
 | k + 1 => by
  have ih0 := portcullisref03_Find.mono_l k
  ·intro y0 y1 y2
   unfold portcullisref03_Find.l0
   repeat' first
   | (with_reducible exact ih0 _ _ _)
   | (with_reducible exact LeO.refl _)
   | (with_reducible exact LeO.none _)
   | (with_reducible refine LeO.ite ?_ ?_)
   | (with_reducible refine LeO.bind ?_ (fun _ => ?_))
   | exact ih0 _ _ _
   | exact LeO.none _
   | refine LeO.ite ?_ ?_
   | refine LeO.bind ?_ (fun _ => ?_)
theorem portcullisref03_Find.mono : ∀ a0 k, LeO (portcullisref03_Find.f k a0) (portcullisref03_Find.f (k + 1) a0) := by
 intro a0 k
 have ih0 := portcullisref03_Find.mono_l k
 unfold portcullisref03_Find.f
 repeat' first
   | (with_reducible exact ih0 _ _ _)
   | (with_reducible exact LeO.refl _)
   | (with_reducible exact LeO.none _)
   | (with_reducible refine LeO.ite ?_ ?_)
   | (with_reducible refine LeO.bind ?_ (fun _ => ?_))
   | exact ih0 _ _ _
   | exact LeO.none _
   | refine LeO.ite ?_ ?_
   | refine LeO.bind ?_ (fun _ => ?_)
set_option maxHeartbeats 8000000 in
set_option maxRecDepth 100000 in
theorem portcullisref03_Find.calls (k : Nat) (a0 : Int) (r1 : Int) (r2 : Int) (r3 : Int) (r4 : Int) (r5 : Int) (r6 : Int) (r7 : Int) (r8 : Int) (r9 : Int) (r10 : Bool) (r11 : Int) (w : World) (h : portcullisref03_Find.f k a0 = some (r1, r2, r3, r4, r5, r6, r7, r8, r9, r10, r11)) :
  Calls Tryd.prog 32 #[.int .i32 a0] w fun e w' => e = .returned (.agg #[.int .i32 r1, .int .i32 r2, .int .u8 r3, .int .i32 r4, .int .i32 r5, .int .i32 r6, .int .u8 r7, .int .u8 r8, .int .u8 r9, .bool r10, .int .u8 r11]) ∧ Below w.heap.size w w' := by
 have hu52 := Tryd.underlying52
 have HB := Aside0.mk (Below.refl w.heap.size w)
 have H : ((portcullisref03_Rows.f).bind fun t282 => (portcullisref03_Find.l0 k a0 t282 0)) = some (r1, r2, r3, r4, r5, r6, r7, r8, r9, r10, r11) := h
 clear h
 replace H := Option.bind_eq_some_iff.mp H
 obtain ⟨t282, A20, H⟩ := H
 replace H : (portcullisref03_Find.l0 k a0 t282 0) = some (r1, r2, r3, r4, r5, r6, r7, r8, r9, r10, r11) := H
 have A2 := Aside0.mk A20
 clear A20
 have H' := Aside0.mk H
 clear H
 go_enter Tryd.func32, Tryd.ntmps32
 go_wp2_with (first | ((with_reducible refine gate_dst (N := 2) rfl ?_); refine box_event ?hg (N := 2) ?hd (cs := #[.int .i32 0, .int .i32 0, .int .u8 0, .int .i32 0, .int .i32 0, .int .i32 0, .int .u8 0, .int .u8 0, .int .u8 0, .bool false, .int .u8 0]) (t := 52) ?hr ?_; (case hd => rfl); (case hg => rfl); (case hr => first | (go_simp; done) | (go_simp; rfl)); intro gb281 hg w3 hbox hb; have n0_ := Aside0.mk (below_step (by repeat (first | (with_reducible first | exact HB.out | apply below_alloc | apply pw_below_drewN | apply below_drew1) | exact HB.out)) hb); have n1_ := Aside0.mk (hbox); have n2_ := Aside0.mk ((by rw [hg]; exact (below_size (by repeat (first | (with_reducible first | exact HB.out | apply below_alloc | apply pw_below_drewN | apply below_drew1) | exact HB.out))) : w.heap.size ≤ gb281)); have n3_ := Aside0.mk ((by rw [hg]; exact (below_size (by repeat (first | (with_reducible first | exact HB.out | apply below_alloc | apply pw_below_drewN | apply below_drew1) | exact HB.out))) : w.heap.size ≤ gb281)); clear HB; have HB := n0_; have BK281 := n1_; have GW281 := n2_; have GE281 := n3_; clear n0_ n1_ n2_ n3_; clear hb hbox hg) | ((with_reducible refine gate_callee (f := 52) rfl ?_); refine goesL_ (some 5) rfl rfl Tryd.func52 (by kernel_rfl) rfl #[] rfl (by (try simp only [List.map_toArray, List.map_cons, List.map_nil]); first | done | rfl | (simp only [List.length_drop, List.length_take]; rfl)) ?_; (with_reducible refine (portcullisref03_Rows.calls  t282 _ A2.out).mono ?_); rintro e w4 ⟨v283, rfl, ho0, hb⟩; refine ⟨_, rfl, ?_⟩; have n0_ := Aside0.mk (Kd.R_lower (Kd.R_newB ho0 (g := gb281) (o := .cells #[.int .i32 0, .int .i32 0, .int .u8 0, .int .i32 0, .int .i32 0, .int .i32 0, .int .u8 0, .int .u8 0, .int .u8 0, .bool false, .int .u8 0] 52 (0, 0)) (by (with_reducible repeat (first | refine blk_drewN ?_ _ | refine blk_drew ?_ | refine blk_alloc ?_ _)); exact BK281.out)) (below_size (by repeat (first | (with_reducible first | exact HB.out | apply below_alloc | apply pw_below_drewN | apply below_drew1 | refine below_set ?_ GE281.out) | exact HB.out)))); have n1_ := Aside0.mk (blk_below (g := gb281) (o := .cells #[.int .i32 0, .int .i32 0, .int .u8 0, .int .i32 0, .int .i32 0, .int .i32 0, .int .u8 0, .int .u8 0, .int .u8 0, .bool false, .int .u8 0] 52 (0, 0)) (by (with_reducible repeat (first | refine blk_drewN ?_ _ | refine blk_drew ?_ | refine blk_alloc ?_ _)); exact BK281.out) hb); have n2_ := Aside0.mk (below_step (by repeat (first | (with_reducible first | exact HB.out | apply below_alloc | apply pw_below_drewN | apply below_drew1 | refine below_set ?_ GE281.out) | exact HB.out)) hb); clear BK281; clear HB; have HO284 := n0_; have BK281 := n1_; have HB := n2_; clear n0_ n1_ n2_; (try clear hb); (try clear hb2); (try clear hk); (try clear hi); (try clear ho0)))
 go_loopg [4] k (fun kq v4 w' => ∃ (x4_1 : Int) (x282000_1 : Int) (x282001_1 : Int) (x282002_1 : Int) (x282003_1 : Int) (x282004_1 : Int) (x282005_1 : Int) (x282006_1 : Int) (x282007_1 : Int) (x282008_1 : Int) (x282009_1 : Bool) (x282010_1 : Int), v4 = .int .i64 x4_1 ∧ Aside0 (portcullisref03_Find.l0 kq a0 t282 x4_1 = some (r1, r2, r3, r4, r5, r6, r7, r8, r9, r10, r11)) ∧ Aside0 (kq ≤ k) ∧ Aside0 (Kd.R k52 52 w' w.heap.size (fun k_ => k_ ≠ gb281) v283 t282) ∧ Aside0 (w'.heap[gb281]? = some (.cells #[.int .i32 x282000_1, .int .i32 x282001_1, .int .u8 x282002_1, .int .i32 x282003_1, .int .i32 x282004_1, .int .i32 x282005_1, .int .u8 x282006_1, .int .u8 x282007_1, .int .u8 x282008_1, .bool x282009_1, .int .u8 x282010_1] 52 (0, 0))) ∧ Aside0 (Below w.heap.size w w'))
 case atStart => exact ⟨(0), (0), (0), (0), (0), (0), (0), (0), (0), (0), (false), (0), (by first | rfl | (simp; done) | (simp [*]; done)), H', ⟨Nat.le_refl _⟩, ⟨by (with_reducible repeat (first | apply Kd.R_alloc | apply Kd.R_drewN | apply Kd.R_drew)); exact Kd.R_mono HO284.out (fun _ hk => hk.2)⟩, ⟨by (with_reducible repeat (first | refine blk_drewN ?_ _ | refine blk_drew ?_ | refine blk_alloc ?_ _)); exact BK281.out⟩, ⟨by repeat (first | (with_reducible first | exact HB.out | apply below_alloc | apply pw_below_drewN | apply below_drew1 | refine below_set ?_ GE281.out) | exact HB.out)⟩⟩
 case round =>
  clear H'
  try clear p2
  try clear c3
  obtain ⟨x4_1, x282000_1, x282001_1, x282002_1, x282003_1, x282004_1, x282005_1, x282006_1, x282007_1, x282008_1, x282009_1, x282010_1, rfl, HA, HK1, HO_3, BK281, HB⟩ := hrel
  cases gk with
  | zero => exact absurd HA.out (by simp [portcullisref03_Find.l0])
  | succ k1 =>
   have H := HA.out
   clear HA
   simp only [portcullisref03_Find.l0] at H
   by_cases c5 : x4_1 < (t282.length : Int)
   ·rw [if_pos c5] at H
    have c5b0 : decide (x4_1 < (t282.length : Int)) = true := decide_eq_true c5
    clear c5
    by_cases c6 : 0 ≤ x4_1
    ·rw [if_pos c6] at H
     have c6b0 : decide (0 ≤ x4_1) = true := decide_eq_true c6
     clear c6
     by_cases c7 : ((rd_T52 t282 x4_1).f0) ≤ a0
     ·rw [if_pos c7] at H
      have c7b0 : decide (((rd_T52 t282 x4_1).f0) ≤ a0) = true := decide_eq_true c7
      clear c7
      by_cases c8 : a0 ≤ ((rd_T52 t282 x4_1).f1)
      ·rw [if_pos c8] at H
       have c8b0 : decide (a0 ≤ ((rd_T52 t282 x4_1).f1)) = true := decide_eq_true c8
       clear c8
       simp only [Option.some.injEq, Prod.mk.injEq] at H
       obtain ⟨rfl, rfl, rfl, rfl, rfl, rfl, rfl, rfl, rfl, rfl, rfl⟩ := H
       obtain ⟨Ao9, co9, eo9⟩ := Kd.R_slice HO_3.out
       subst eo9
       have p285 : 0 ≤ (x4_1 : Int) := of_decide_eq_true (by first | (with_reducible assumption) | assumption)
       have q285 : x4_1 < (t282.length : Int) := of_decide_eq_true (by first | (with_reducible assumption) | assumption)
       obtain ⟨ad285, e285, hx285_0, hx285_1, hx285_2, hx285_3, hx285_4, hx285_5, hx285_6, hx285_7, hx285_8, hx285_9, hx285_10⟩ := at_T52 (Kd.R_reads' HO_3.out).2.2 x4_1 p285 q285
       cases e285
       replace p285 := eq_true p285
       replace q285 := eq_true q285
       have p286 : 0 ≤ (x4_1 : Int) := of_decide_eq_true (by first | (with_reducible assumption) | assumption)
       have q286 : x4_1 < (t282.length : Int) := of_decide_eq_true (by first | (with_reducible assumption) | assumption)
       obtain ⟨ad286, e286, hx286_0, hx286_1, hx286_2, hx286_3, hx286_4, hx286_5, hx286_6, hx286_7, hx286_8, hx286_9, hx286_10⟩ := at_T52 (Kd.R_reads' HO_3.out).2.2 x4_1 p286 q286
       obtain rfl : ad285 = ad286 := (by injection e286)
       replace p286 := eq_true p286
       replace q286 := eq_true q286
       have p287 : 0 ≤ (x4_1 : Int) := of_decide_eq_true (by first | (with_reducible assumption) | assumption)
       have q287 : x4_1 < (t282.length : Int) := of_decide_eq_true (by first | (with_reducible assumption) | assumption)
       obtain ⟨ad287, e287, hx287_0, hx287_1, hx287_2, hx287_3, hx287_4, hx287_5, hx287_6, hx287_7, hx287_8, hx287_9, hx287_10⟩ := at_T52 (Kd.R_reads' HO_3.out).2.2 x4_1 p287 q287
       obtain rfl : ad285 = ad287 := (by injection e287)
       replace p287 := eq_true p287
       replace q287 := eq_true q287
       have hcz10_0 : wr.cell? ⟨gb281, 0, none⟩ = some (.int .i32 x282000_1) := (blk_cell BK281.out 0).trans rfl
       have hcz10_1 : wr.cell? ⟨gb281, 1, none⟩ = some (.int .i32 x282001_1) := (blk_cell BK281.out 1).trans rfl
       have hcz10_2 : wr.cell? ⟨gb281, 2, none⟩ = some (.int .u8 x282002_1) := (blk_cell BK281.out 2).trans rfl
       have hcz10_3 : wr.cell? ⟨gb281, 3, none⟩ = some (.int .i32 x282003_1) := (blk_cell BK281.out 3).trans rfl
       have hcz10_4 : wr.cell? ⟨gb281, 4, none⟩ = some (.int .i32 x282004_1) := (blk_cell BK281.out 4).trans rfl
       have hcz10_5 : wr.cell? ⟨gb281, 5, none⟩ = some (.int .i32 x282005_1) := (blk_cell BK281.out 5).trans rfl
       have hcz10_6 : wr.cell? ⟨gb281, 6, none⟩ = some (.int .u8 x282006_1) := (blk_cell BK281.out 6).trans rfl
       have hcz10_7 : wr.cell? ⟨gb281, 7, none⟩ = some (.int .u8 x282007_1) := (blk_cell BK281.out 7).trans rfl
       have hcz10_8 : wr.cell? ⟨gb281, 8, none⟩ = some (.int .u8 x282008_1) := (blk_cell BK281.out 8).trans rfl
       have hcz10_9 : wr.cell? ⟨gb281, 9, none⟩ = some (.bool x282009_1) := (blk_cell BK281.out 9).trans rfl
       have hcz10_10 : wr.cell? ⟨gb281, 10, none⟩ = some (.int .u8 x282010_1) := (blk_cell BK281.out 10).trans rfl
       have hfz10_0 := blk_frozen BK281.out 0
       have hfz10_1 := blk_frozen BK281.out 1
       have hfz10_2 := blk_frozen BK281.out 2
       have hfz10_3 := blk_frozen BK281.out 3
       have hfz10_4 := blk_frozen BK281.out 4
       have hfz10_5 := blk_frozen BK281.out 5
       have hfz10_6 := blk_frozen BK281.out 6
       have hfz10_7 := blk_frozen BK281.out 7
       have hfz10_8 := blk_frozen BK281.out 8
       have hfz10_9 := blk_frozen BK281.out 9
       have hfz10_10 := blk_frozen BK281.out 10
       go_wp2
       refine bodyPost_ret (results_cell_row rfl _ _ gb281 52 #[.int .i32 ((rd_T52 t282 x4_1).f0), .int .i32 ((rd_T52 t282 x4_1).f1), .int .u8 ((rd_T52 t282 x4_1).f2), .int .i32 ((rd_T52 t282 x4_1).f3), .int .i32 ((rd_T52 t282 x4_1).f4), .int .i32 ((rd_T52 t282 x4_1).f5), .int .u8 ((rd_T52 t282 x4_1).f6), .int .u8 ((rd_T52 t282 x4_1).f7), .int .u8 ((rd_T52 t282 x4_1).f8), .bool ((rd_T52 t282 x4_1).f9), .int .u8 ((rd_T52 t282 x4_1).f10)] (0, 0) _ rfl (by (with_reducible repeat (first | refine blk_drewN ?_ _ | refine blk_drew ?_ | refine blk_alloc ?_ _)); refine blk_put (cs := #[.int .i32 ((rd_T52 t282 x4_1).f0), .int .i32 ((rd_T52 t282 x4_1).f1), .int .u8 ((rd_T52 t282 x4_1).f2), .int .i32 ((rd_T52 t282 x4_1).f3), .int .i32 ((rd_T52 t282 x4_1).f4), .int .i32 ((rd_T52 t282 x4_1).f5), .int .u8 ((rd_T52 t282 x4_1).f6), .int .u8 ((rd_T52 t282 x4_1).f7), .int .u8 ((rd_T52 t282 x4_1).f8), .bool ((rd_T52 t282 x4_1).f9), .int .u8 x282010_1]) ?_ 10 _ rfl; (with_reducible repeat (first | refine blk_drewN ?_ _ | refine blk_drew ?_ | refine blk_alloc ?_ _)); refine blk_put (cs := #[.int .i32 ((rd_T52 t282 x4_1).f0), .int .i32 ((rd_T52 t282 x4_1).f1), .int .u8 ((rd_T52 t282 x4_1).f2), .int .i32 ((rd_T52 t282 x4_1).f3), .int .i32 ((rd_T52 t282 x4_1).f4), .int .i32 ((rd_T52 t282 x4_1).f5), .int .u8 ((rd_T52 t282 x4_1).f6), .int .u8 ((rd_T52 t282 x4_1).f7), .int .u8 ((rd_T52 t282 x4_1).f8), .bool x282009_1, .int .u8 x282010_1]) ?_ 9 _ rfl; (with_reducible repeat (first | refine blk_drewN ?_ _ | refine blk_drew ?_ | refine blk_alloc ?_ _)); refine blk_put (cs := #[.int .i32 ((rd_T52 t282 x4_1).f0), .int .i32 ((rd_T52 t282 x4_1).f1), .int .u8 ((rd_T52 t282 x4_1).f2), .int .i32 ((rd_T52 t282 x4_1).f3), .int .i32 ((rd_T52 t282 x4_1).f4), .int .i32 ((rd_T52 t282 x4_1).f5), .int .u8 ((rd_T52 t282 x4_1).f6), .int .u8 ((rd_T52 t282 x4_1).f7), .int .u8 x282008_1, .bool x282009_1, .int .u8 x282010_1]) ?_ 8 _ rfl; (with_reducible repeat (first | refine blk_drewN ?_ _ | refine blk_drew ?_ | refine blk_alloc ?_ _)); refine blk_put (cs := #[.int .i32 ((rd_T52 t282 x4_1).f0), .int .i32 ((rd_T52 t282 x4_1).f1), .int .u8 ((rd_T52 t282 x4_1).f2), .int .i32 ((rd_T52 t282 x4_1).f3), .int .i32 ((rd_T52 t282 x4_1).f4), .int .i32 ((rd_T52 t282 x4_1).f5), .int .u8 ((rd_T52 t282 x4_1).f6), .int .u8 x282007_1, .int .u8 x282008_1, .bool x282009_1, .int .u8 x282010_1]) ?_ 7 _ rfl; (with_reducible repeat (first | refine blk_drewN ?_ _ | refine blk_drew ?_ | refine blk_alloc ?_ _)); refine blk_put (cs := #[.int .i32 ((rd_T52 t282 x4_1).f0), .int .i32 ((rd_T52 t282 x4_1).f1), .int .u8 ((rd_T52 t282 x4_1).f2), .int .i32 ((rd_T52 t282 x4_1).f3), .int .i32 ((rd_T52 t282 x4_1).f4), .int .i32 ((rd_T52 t282 x4_1).f5), .int .u8 x282006_1, .int .u8 x282007_1, .int .u8 x282008_1, .bool x282009_1, .int .u8 x282010_1]) ?_ 6 _ rfl; (with_reducible repeat (first | refine blk_drewN ?_ _ | refine blk_drew ?_ | refine blk_alloc ?_ _)); refine blk_put (cs := #[.int .i32 ((rd_T52 t282 x4_1).f0), .int .i32 ((rd_T52 t282 x4_1).f1), .int .u8 ((rd_T52 t282 x4_1).f2), .int .i32 ((rd_T52 t282 x4_1).f3), .int .i32 ((rd_T52 t282 x4_1).f4), .int .i32 x282005_1, .int .u8 x282006_1, .int .u8 x282007_1, .int .u8 x282008_1, .bool x282009_1, .int .u8 x282010_1]) ?_ 5 _ rfl; (with_reducible repeat (first | refine blk_drewN ?_ _ | refine blk_drew ?_ | refine blk_alloc ?_ _)); refine blk_put (cs := #[.int .i32 ((rd_T52 t282 x4_1).f0), .int .i32 ((rd_T52 t282 x4_1).f1), .int .u8 ((rd_T52 t282 x4_1).f2), .int .i32 ((rd_T52 t282 x4_1).f3), .int .i32 x282004_1, .int .i32 x282005_1, .int .u8 x282006_1, .int .u8 x282007_1, .int .u8 x282008_1, .bool x282009_1, .int .u8 x282010_1]) ?_ 4 _ rfl; (with_reducible repeat (first | refine blk_drewN ?_ _ | refine blk_drew ?_ | refine blk_alloc ?_ _)); refine blk_put (cs := #[.int .i32 ((rd_T52 t282 x4_1).f0), .int .i32 ((rd_T52 t282 x4_1).f1), .int .u8 ((rd_T52 t282 x4_1).f2), .int .i32 x282003_1, .int .i32 x282004_1, .int .i32 x282005_1, .int .u8 x282006_1, .int .u8 x282007_1, .int .u8 x282008_1, .bool x282009_1, .int .u8 x282010_1]) ?_ 3 _ rfl; (with_reducible repeat (first | refine blk_drewN ?_ _ | refine blk_drew ?_ | refine blk_alloc ?_ _)); refine blk_put (cs := #[.int .i32 ((rd_T52 t282 x4_1).f0), .int .i32 ((rd_T52 t282 x4_1).f1), .int .u8 x282002_1, .int .i32 x282003_1, .int .i32 x282004_1, .int .i32 x282005_1, .int .u8 x282006_1, .int .u8 x282007_1, .int .u8 x282008_1, .bool x282009_1, .int .u8 x282010_1]) ?_ 2 _ rfl; (with_reducible repeat (first | refine blk_drewN ?_ _ | refine blk_drew ?_ | refine blk_alloc ?_ _)); refine blk_put (cs := #[.int .i32 ((rd_T52 t282 x4_1).f0), .int .i32 x282001_1, .int .u8 x282002_1, .int .i32 x282003_1, .int .i32 x282004_1, .int .i32 x282005_1, .int .u8 x282006_1, .int .u8 x282007_1, .int .u8 x282008_1, .bool x282009_1, .int .u8 x282010_1]) ?_ 1 _ rfl; (with_reducible repeat (first | refine blk_drewN ?_ _ | refine blk_drew ?_ | refine blk_alloc ?_ _)); refine blk_put (cs := #[.int .i32 x282000_1, .int .i32 x282001_1, .int .u8 x282002_1, .int .i32 x282003_1, .int .i32 x282004_1, .int .i32 x282005_1, .int .u8 x282006_1, .int .u8 x282007_1, .int .u8 x282008_1, .bool x282009_1, .int .u8 x282010_1]) ?_ 0 _ rfl; (with_reducible repeat (first | refine blk_drewN ?_ _ | refine blk_drew ?_ | refine blk_alloc ?_ _)); exact BK281.out) Tryd.underlying52 rfl (by kernel_rfl)) rfl ?_
       exact ⟨by first | rfl | (simp [errW_none, errW_some] <;> rfl) | (simp [*, errW_none, errW_some] <;> rfl), by repeat (first | (with_reducible first | exact HB.out | apply below_alloc | apply pw_below_drewN | apply below_drew1 | refine below_set ?_ GE281.out) | exact HB.out)⟩
      ·rw [if_neg c8] at H
       have c8b0 : decide (a0 ≤ ((rd_T52 t282 x4_1).f1)) = false := decide_eq_false c8
       clear c8
       have H' := Aside0.mk H
       clear H
       obtain ⟨Ao11, co11, eo11⟩ := Kd.R_slice HO_3.out
       subst eo11
       have p285 : 0 ≤ (x4_1 : Int) := of_decide_eq_true (by first | (with_reducible assumption) | assumption)
       have q285 : x4_1 < (t282.length : Int) := of_decide_eq_true (by first | (with_reducible assumption) | assumption)
       obtain ⟨ad285, e285, hx285_0, hx285_1, hx285_2, hx285_3, hx285_4, hx285_5, hx285_6, hx285_7, hx285_8, hx285_9, hx285_10⟩ := at_T52 (Kd.R_reads' HO_3.out).2.2 x4_1 p285 q285
       cases e285
       replace p285 := eq_true p285
       replace q285 := eq_true q285
       have p286 : 0 ≤ (x4_1 : Int) := of_decide_eq_true (by first | (with_reducible assumption) | assumption)
       have q286 : x4_1 < (t282.length : Int) := of_decide_eq_true (by first | (with_reducible assumption) | assumption)
       obtain ⟨ad286, e286, hx286_0, hx286_1, hx286_2, hx286_3, hx286_4, hx286_5, hx286_6, hx286_7, hx286_8, hx286_9, hx286_10⟩ := at_T52 (Kd.R_reads' HO_3.out).2.2 x4_1 p286 q286
       obtain rfl : ad285 = ad286 := (by injection e286)
       replace p286 := eq_true p286
       replace q286 := eq_true q286
       go_wp2
       go_roundg k1
       case measure => have := HK1.out; omega
       case rel => exact ⟨(wrap64 (x4_1 + 1)), (x282000_1), (x282001_1), (x282002_1), (x282003_1), (x282004_1), (x282005_1), (x282006_1), (x282007_1), (x282008_1), (x282009_1), (x282010_1), (by first | rfl | (simp; done) | (simp [*]; done)), H', ⟨by have := HK1.out; omega⟩, ⟨by (with_reducible repeat (first | apply Kd.R_alloc | apply Kd.R_drewN | apply Kd.R_drew)); exact HO_3.out⟩, ⟨by (with_reducible repeat (first | refine blk_drewN ?_ _ | refine blk_drew ?_ | refine blk_alloc ?_ _)); exact BK281.out⟩, ⟨by repeat (first | (with_reducible first | exact HB.out | apply below_alloc | apply pw_below_drewN | apply below_drew1 | refine below_set ?_ GE281.out) | exact HB.out)⟩⟩
     ·rw [if_neg c7] at H
      have c7b0 : decide (((rd_T52 t282 x4_1).f0) ≤ a0) = false := decide_eq_false c7
      clear c7
      have H' := Aside0.mk H
      clear H
      obtain ⟨Ao12, co12, eo12⟩ := Kd.R_slice HO_3.out
      subst eo12
      have p285 : 0 ≤ (x4_1 : Int) := of_decide_eq_true (by first | (with_reducible assumption) | assumption)
      have q285 : x4_1 < (t282.length : Int) := of_decide_eq_true (by first | (with_reducible assumption) | assumption)
      obtain ⟨ad285, e285, hx285_0, hx285_1, hx285_2, hx285_3, hx285_4, hx285_5, hx285_6, hx285_7, hx285_8, hx285_9, hx285_10⟩ := at_T52 (Kd.R_reads' HO_3.out).2.2 x4_1 p285 q285
      cases e285
      replace p285 := eq_true p285
      replace q285 := eq_true q285
      go_wp2
      go_roundg k1
      case measure => have := HK1.out; omega
      case rel => exact ⟨(wrap64 (x4_1 + 1)), (x282000_1), (x282001_1), (x282002_1), (x282003_1), (x282004_1), (x282005_1), (x282006_1), (x282007_1), (x282008_1), (x282009_1), (x282010_1), (by first | rfl | (simp; done) | (simp [*]; done)), H', ⟨by have := HK1.out; omega⟩, ⟨by (with_reducible repeat (first | apply Kd.R_alloc | apply Kd.R_drewN | apply Kd.R_drew)); exact HO_3.out⟩, ⟨by (with_reducible repeat (first | refine blk_drewN ?_ _ | refine blk_drew ?_ | refine blk_alloc ?_ _)); exact BK281.out⟩, ⟨by repeat (first | (with_reducible first | exact HB.out | apply below_alloc | apply pw_below_drewN | apply below_drew1 | refine below_set ?_ GE281.out) | exact HB.out)⟩⟩
    ·rw [if_neg c6] at H
     exact absurd H (by simp)
   ·rw [if_neg c5] at H
    have c5b0 : decide (x4_1 < (t282.length : Int)) = false := decide_eq_false c5
    clear c5
    simp only [Option.some.injEq, Prod.mk.injEq] at H
    obtain ⟨rfl, rfl, rfl, rfl, rfl, rfl, rfl, rfl, rfl, rfl, rfl⟩ := H
    obtain ⟨Ao13, co13, eo13⟩ := Kd.R_slice HO_3.out
    subst eo13
    have hcz14_0 : wr.cell? ⟨gb281, 0, none⟩ = some (.int .i32 x282000_1) := (blk_cell BK281.out 0).trans rfl
    have hcz14_1 : wr.cell? ⟨gb281, 1, none⟩ = some (.int .i32 x282001_1) := (blk_cell BK281.out 1).trans rfl
    have hcz14_2 : wr.cell? ⟨gb281, 2, none⟩ = some (.int .u8 x282002_1) := (blk_cell BK281.out 2).trans rfl
    have hcz14_3 : wr.cell? ⟨gb281, 3, none⟩ = some (.int .i32 x282003_1) := (blk_cell BK281.out 3).trans rfl
    have hcz14_4 : wr.cell? ⟨gb281, 4, none⟩ = some (.int .i32 x282004_1) := (blk_cell BK281.out 4).trans rfl
    have hcz14_5 : wr.cell? ⟨gb281, 5, none⟩ = some (.int .i32 x282005_1) := (blk_cell BK281.out 5).trans rfl
    have hcz14_6 : wr.cell? ⟨gb281, 6, none⟩ = some (.int .u8 x282006_1) := (blk_cell BK281.out 6).trans rfl
    have hcz14_7 : wr.cell? ⟨gb281, 7, none⟩ = some (.int .u8 x282007_1) := (blk_cell BK281.out 7).trans rfl
    have hcz14_8 : wr.cell? ⟨gb281, 8, none⟩ = some (.int .u8 x282008_1) := (blk_cell BK281.out 8).trans rfl
    have hcz14_9 : wr.cell? ⟨gb281, 9, none⟩ = some (.bool x282009_1) := (blk_cell BK281.out 9).trans rfl
    have hcz14_10 : wr.cell? ⟨gb281, 10, none⟩ = some (.int .u8 x282010_1) := (blk_cell BK281.out 10).trans rfl
    have hfz14_0 := blk_frozen BK281.out 0
    have hfz14_1 := blk_frozen BK281.out 1
    have hfz14_2 := blk_frozen BK281.out 2
    have hfz14_3 := blk_frozen BK281.out 3
    have hfz14_4 := blk_frozen BK281.out 4
    have hfz14_5 := blk_frozen BK281.out 5
    have hfz14_6 := blk_frozen BK281.out 6
    have hfz14_7 := blk_frozen BK281.out 7
    have hfz14_8 := blk_frozen BK281.out 8
    have hfz14_9 := blk_frozen BK281.out 9
    have hfz14_10 := blk_frozen BK281.out 10
    go_wp2
    refine bodyPost_ret (results_cell_row rfl _ _ gb281 52 #[.int .i32 0, .int .i32 0, .int .u8 0, .int .i32 0, .int .i32 0, .int .i32 0, .int .u8 0, .int .u8 0, .int .u8 0, .bool false, .int .u8 0] (0, 0) _ rfl (by (with_reducible repeat (first | refine blk_drewN ?_ _ | refine blk_drew ?_ | refine blk_alloc ?_ _)); refine blk_put (cs := #[.int .i32 0, .int .i32 0, .int .u8 0, .int .i32 0, .int .i32 0, .int .i32 0, .int .u8 0, .int .u8 0, .int .u8 0, .bool false, .int .u8 x282010_1]) ?_ 10 _ rfl; (with_reducible repeat (first | refine blk_drewN ?_ _ | refine blk_drew ?_ | refine blk_alloc ?_ _)); refine blk_put (cs := #[.int .i32 0, .int .i32 0, .int .u8 0, .int .i32 0, .int .i32 0, .int .i32 0, .int .u8 0, .int .u8 0, .int .u8 0, .bool x282009_1, .int .u8 x282010_1]) ?_ 9 _ rfl; (with_reducible repeat (first | refine blk_drewN ?_ _ | refine blk_drew ?_ | refine blk_alloc ?_ _)); refine blk_put (cs := #[.int .i32 0, .int .i32 0, .int .u8 0, .int .i32 0, .int .i32 0, .int .i32 0, .int .u8 0, .int .u8 0, .int .u8 x282008_1, .bool x282009_1, .int .u8 x282010_1]) ?_ 8 _ rfl; (with_reducible repeat (first | refine blk_drewN ?_ _ | refine blk_drew ?_ | refine blk_alloc ?_ _)); refine blk_put (cs := #[.int .i32 0, .int .i32 0, .int .u8 0, .int .i32 0, .int .i32 0, .int .i32 0, .int .u8 0, .int .u8 x282007_1, .int .u8 x282008_1, .bool x282009_1, .int .u8 x282010_1]) ?_ 7 _ rfl; (with_reducible repeat (first | refine blk_drewN ?_ _ | refine blk_drew ?_ | refine blk_alloc ?_ _)); refine blk_put (cs := #[.int .i32 0, .int .i32 0, .int .u8 0, .int .i32 0, .int .i32 0, .int .i32 0, .int .u8 x282006_1, .int .u8 x282007_1, .int .u8 x282008_1, .bool x282009_1, .int .u8 x282010_1]) ?_ 6 _ rfl; (with_reducible repeat (first | refine blk_drewN ?_ _ | refine blk_drew ?_ | refine blk_alloc ?_ _)); refine blk_put (cs := #[.int .i32 0, .int .i32 0, .int .u8 0, .int .i32 0, .int .i32 0, .int .i32 x282005_1, .int .u8 x282006_1, .int .u8 x282007_1, .int .u8 x282008_1, .bool x282009_1, .int .u8 x282010_1]) ?_ 5 _ rfl; (with_reducible repeat (first | refine blk_drewN ?_ _ | refine blk_drew ?_ | refine blk_alloc ?_ _)); refine blk_put (cs := #[.int .i32 0, .int .i32 0, .int .u8 0, .int .i32 0, .int .i32 x282004_1, .int .i32 x282005_1, .int .u8 x282006_1, .int .u8 x282007_1, .int .u8 x282008_1, .bool x282009_1, .int .u8 x282010_1]) ?_ 4 _ rfl; (with_reducible repeat (first | refine blk_drewN ?_ _ | refine blk_drew ?_ | refine blk_alloc ?_ _)); refine blk_put (cs := #[.int .i32 0, .int .i32 0, .int .u8 0, .int .i32 x282003_1, .int .i32 x282004_1, .int .i32 x282005_1, .int .u8 x282006_1, .int .u8 x282007_1, .int .u8 x282008_1, .bool x282009_1, .int .u8 x282010_1]) ?_ 3 _ rfl; (with_reducible repeat (first | refine blk_drewN ?_ _ | refine blk_drew ?_ | refine blk_alloc ?_ _)); refine blk_put (cs := #[.int .i32 0, .int .i32 0, .int .u8 x282002_1, .int .i32 x282003_1, .int .i32 x282004_1, .int .i32 x282005_1, .int .u8 x282006_1, .int .u8 x282007_1, .int .u8 x282008_1, .bool x282009_1, .int .u8 x282010_1]) ?_ 2 _ rfl; (with_reducible repeat (first | refine blk_drewN ?_ _ | refine blk_drew ?_ | refine blk_alloc ?_ _)); refine blk_put (cs := #[.int .i32 0, .int .i32 x282001_1, .int .u8 x282002_1, .int .i32 x282003_1, .int .i32 x282004_1, .int .i32 x282005_1, .int .u8 x282006_1, .int .u8 x282007_1, .int .u8 x282008_1, .bool x282009_1, .int .u8 x282010_1]) ?_ 1 _ rfl; (with_reducible repeat (first | refine blk_drewN ?_ _ | refine blk_drew ?_ | refine blk_alloc ?_ _)); refine blk_put (cs := #[.int .i32 x282000_1, .int .i32 x282001_1, .int .u8 x282002_1, .int .i32 x282003_1, .int .i32 x282004_1, .int .i32 x282005_1, .int .u8 x282006_1, .int .u8 x282007_1, .int .u8 x282008_1, .bool x282009_1, .int .u8 x282010_1]) ?_ 0 _ rfl; (with_reducible repeat (first | refine blk_drewN ?_ _ | refine blk_drew ?_ | refine blk_alloc ?_ _)); exact BK281.out) Tryd.underlying52 rfl (by kernel_rfl)) rfl ?_
    exact ⟨by first | rfl | (simp [errW_none, errW_some] <;> rfl) | (simp [*, errW_none, errW_some] <;> rfl), by repeat (first | (with_reducible first | exact HB.out | apply below_alloc | apply pw_below_drewN | apply below_drew1 | refine below_set ?_ GE281.out) | exact HB.out)⟩

def portcullisref04_class.f (k : Nat) (a0 : Int) : Option (Int) := (portcullisref03_Find.f k a0).bind fun bt288 => (some bt288.2.2.2.2.2.2.2.2.1)
set_option maxHeartbeats 8000000 in
set_option maxRecDepth 100000 in
theorem portcullisref04_class.calls (k : Nat) (a0 : Int) (r : Int) (w : World) (h : portcullisref04_class.f k a0 = some r) :
  Calls Tryd.prog 46 #[.int .i32 a0] w fun e w' => e = .returned (.int .u8 r) ∧ Below w.heap.size w w' := by
 have HB := Aside0.mk (Below.refl w.heap.size w)
 have H : ((portcullisref03_Find.f k a0).bind fun bt288 => (some bt288.2.2.2.2.2.2.2.2.1)) = some r := h
 clear h
 replace H := Option.bind_eq_some_iff.mp H
 obtain ⟨⟨t288, t289, t290, t291, t292, t293, t294, t295, t296, t297, t298⟩, A20, H⟩ := H
 replace H : (some t296) = some r := H
 have A2 := Aside0.mk A20
 clear A20
 obtain rfl := Option.some.inj H
 go_enter Tryd.func46, Tryd.ntmps46
 go_wp2_with (first | ((with_reducible refine gate_callee (f := 32) rfl ?_); refine goesL_ (some 4) rfl rfl Tryd.func32 (by kernel_rfl) rfl #[.int .i32 a0] rfl (by (try simp only [List.map_toArray, List.map_cons, List.map_nil]); first | done | rfl | (simp only [List.length_drop, List.length_take]; rfl)) ?_; (with_reducible refine (portcullisref03_Find.calls k a0 t288 t289 t290 t291 t292 t293 t294 t295 t296 t297 t298 _ A2.out).mono ?_); rintro e w3 ⟨rfl, hb⟩; refine ⟨_, rfl, ?_⟩; have n0_ := Aside0.mk (below_step (by repeat (first | (with_reducible first | exact HB.out | apply below_alloc | apply pw_below_drewN | apply below_drew1) | exact HB.out)) hb); clear HB; have HB := n0_; clear n0_; (try clear hb); (try clear hb2); (try clear hk); (try clear hi)))
 go_ret
 exact ⟨by first | rfl | (simp [errW_none, errW_some] <;> rfl) | (simp [*, errW_none, errW_some] <;> rfl), by repeat (first | (with_reducible first | exact HB.out | apply below_alloc | apply pw_below_drewN | apply below_drew1) | exact HB.out)⟩

end Go.Proofs.YtncbbgmhmofhnaaDoor.Pr
end

section
namespace Go.Proofs.YtncbbgmhmofhnaaDoor.Pr
open Go.RowKit Go.Proofs.YtncbbgmhmofhnaaDoorW.PrintWords Go.Proofs.YtncbbgmhmofhnaaDoorW.PrintLast Go.Proofs.YtncbbgmhmofhnaaDoorW.PrintMore
attribute [local go_sem] max2_int min2_int max_two min_two max_three min_three max_four min_four Instr.field asAgg   -- for this text's walks alone
set_option linter.unusedVariables false
set_option linter.unusedSimpArgs false

mutual
def portcullisref04_Order.l0 : Nat → List Int → Bool → Option (List Int)
 | 0, _, _ => none
 | k + 1, x3, x4 => if x4 = true then (portcullisref04_Order.l1 k x3 false 1) else (some x3)
def portcullisref04_Order.l1 : Nat → List Int → Bool → Int → Option (List Int)
 | 0, _, _, _ => none
 | k + 1, x3, x4, x5 => if x5 < (x3.length : Int) then (if 0 ≤ (wrap64 (x5 - 1)) then (if (wrap64 (x5 - 1)) < (x3.length : Int) then ((portcullisref04_class.f k (rd x3 (wrap64 (x5 - 1)))).bind fun t303 => (if 0 ≤ x5 then ((portcullisref04_class.f k (rd x3 x5)).bind fun t305 => (if t305 = 0 then (portcullisref04_Order.l1 k x3 x4 (wrap64 (x5 + 1))) else (if t303 > t305 then (portcullisref04_Order.l1 k ((x3.set ((wrap64 (x5 - 1)) : Int).toNat (rd x3 x5)).set (x5 : Int).toNat (rd x3 (wrap64 (x5 - 1)))) true (wrap64 (x5 + 1))) else (portcullisref04_Order.l1 k x3 x4 (wrap64 (x5 + 1)))))) else (none))) else (none)) else (none)) else (portcullisref04_Order.l0 k x3 x4)
end
def portcullisref04_Order.f (k : Nat) (l0 : List Int) : Option (List Int) := if ([] : List Int).length + l0.length < 35184372088832 then (portcullisref04_Order.l0 k (([] : List Int) ++ l0) true) else (none)
def portcullisref04_Order.T9 : Bool × List (List Nat × List Nat) := (true, [([], []), ([], []), ([1], [1]), ([0, 2], [0, 2]), ([3], [3]), ([4], [4]), ([], []), ([], []), ([6, 7], [6, 7]), ([8], [8]), ([9, 5], [9]), ([5, 10, 0, 1, 2, 3, 4, 5], [5]), ([10, 11, 0, 1, 2, 3, 4, 5, 6, 7, 8, 9, 10, 11], [10])])
def portcullisref04_Order.B9 : List Nat := [0, 0, 2, 7, 15, 31, 0, 0, 192, 448, 1023, 2047, 4095]
theorem portcullisref04_Order.tab9 : rtab .any (opsOf Tryd.f49 9) = portcullisref04_Order.T9 := by kernel_rfl
theorem portcullisref04_Order.bits9 : waitsOk portcullisref04_Order.T9.2 portcullisref04_Order.B9 = true := by kernel_rfl
def portcullisref04_Order.T11 : Bool × List (List Nat × List Nat) := (true, [([], []), ([], []), ([1], [1]), ([], []), ([], []), ([], []), ([], []), ([5, 6], [5, 6]), ([7], [7]), ([], []), ([], []), ([10], [10]), ([9, 11], [9, 11]), ([12], [12]), ([0, 2, 0, 1, 2, 5, 6, 7, 8, 13], [0, 2]), ([14, 8, 0, 1, 2, 5, 6, 7, 8, 13], [8, 14]), ([3, 4, 0, 1, 2, 3, 4, 5, 6, 7, 8, 9, 10, 11, 12, 13, 14, 15], [3, 4]), ([16, 13, 15, 0, 1, 2, 3, 4, 5, 6, 7, 8, 9, 10, 11, 12, 13, 14, 15], [13, 16])])
def portcullisref04_Order.B11 : List Nat := [0, 0, 2, 0, 0, 0, 0, 96, 224, 0, 0, 1024, 3584, 7680, 16359, 32743, 65535, 131071]
theorem portcullisref04_Order.tab11 : rtab .any (opsOf Tryd.f49 11) = portcullisref04_Order.T11 := by kernel_rfl
theorem portcullisref04_Order.bits11 : waitsOk portcullisref04_Order.T11.2 portcullisref04_Order.B11 = true := by kernel_rfl
set_option maxHeartbeats 8000000 in
set_option maxRecDepth 100000 in
theorem portcullisref04_Order.calls (k : Nat) (A0 : Option Addr) (c0 : Nat) (l0 : List Int) (r : List Int) (w : World) (hr0 : Kd.C (Kd.int .i32) w A0 l0.length l0) (hc0 : l0.length ≤ c0) (h : portcullisref04_Order.f k l0 = some r) :
  Calls Tryd.prog 49 #[.slice A0 l0.length c0] w fun e w' => ∃ v0_ : Value, e = .returned (v0_) ∧ Kd.R (Kd.int .i32) 21 w' w.heap.size (fun _ => True) v0_ r ∧ Below w.heap.size w w' := by
 have HR0 := Aside0.mk hr0
 have HC0 := Aside0.mk hc0
 clear hr0 hc0
 have HB := Aside0.mk (Below.refl w.heap.size w)
 have H : (if ([] : List Int).length + l0.length < 35184372088832 then (portcullisref04_Order.l0 k (([] : List Int) ++ l0) true) else (none)) = some r := h
 clear h
 by_cases c2 : ([] : List Int).length + l0.length < 35184372088832
 ·rw [if_pos c2] at H
  have LMc2 := Aside0.mk c2
  clear c2
  obtain ⟨y299, hy299⟩ : ∃ y_ : List Int, y_ = (([] : List Int) ++ l0) := ⟨_, rfl⟩
  replace H : (portcullisref04_Order.l0 k y299 true) = some r := by first | (rw [hy299]; with_reducible exact H) | (have H2_ := (Option.bind_some _ _).symm.trans H; rw [hy299]; with_reducible exact H2_) | (have H2_ := (Option.bind_some _ _).symm.trans H; with_reducible exact H2_) | with_reducible exact H | (rw [hy299]; exact H) | exact H
  have Ny299 := Aside0.mk hy299
  clear hy299
  have H' := Aside0.mk H
  clear H
  go_enter Tryd.func49, Tryd.ntmps49
  go_wp2_with (first | ((with_reducible refine gate_builtin (b := .append) (xs := #[.tmp 8, .tmp 9]) rfl ?_); at_builtin; refine Kd.R_append_rows (Kd.int .i32) (w0 := w) w.heap.size rfl (.tmp 8) (.tmp 9) 38 21 (.int .i32 0) 4 rfl Tryd.underlying38 info21 rfl (by decide) (by omega) (.slice none 0 0) ([] : List Int) l0 _ _ _ (fun _ => True) (fun _ => False) rfl rfl ?aO ?aR (fun _ _ h => h) (fun _ h => h.elim) ?aF ?aB ?aS ?aL ?_; (case aR => repeat (first | exact HR0.out | (with_reducible refine Kd.C_alloc ?_ _) | (with_reducible refine Kd.C_drewN ?_ _) | (with_reducible refine Kd.C_drew ?_))); (case aB => exact (by repeat (first | (with_reducible first | exact HB.out | apply below_alloc | apply pw_below_drewN | apply below_drew1) | exact HB.out))); (case aF => exact (fun _ _ => trivial)); (case aO => exact ((Kd.R_nil _ _ _ _ (fun _ => True)))); (case aS => exact (below_size (by repeat (first | (with_reducible first | exact HB.out | apply below_alloc | apply pw_below_drewN | apply below_drew1) | exact HB.out)))); (case aL => have := LMc2.out; omega); intro v300 w3 ho hb hg hat; rw [← Ny299.out] at ho; have n0_ := Aside0.mk (hb); have n1_ := Aside0.mk (ho); clear HB; have HB := n0_; have HO301 := n1_; clear n0_ n1_; clear ho hb hg hat))
  go_loopg [4] k (fun kq v4 w' => ∃ (x3_1 : List Int) (x4_1 : Bool), v4 = .bool x4_1 ∧ Aside0 (portcullisref04_Order.l0 kq x3_1 x4_1 = some r) ∧ Aside0 (kq ≤ k) ∧ Aside0 (Kd.R (Kd.int .i32) 21 w' w.heap.size (fun _ => True) v300 x3_1) ∧ Aside0 (Below w.heap.size w w'))
  case atStart => exact ⟨(y299), (true), (by first | rfl | (simp; done) | (simp [*]; done)), H', ⟨Nat.le_refl _⟩, ⟨by (with_reducible repeat (first | apply Kd.R_alloc | apply Kd.R_drewN | apply Kd.R_drew)); exact HO301.out⟩, ⟨by repeat (first | (with_reducible first | exact HB.out | apply below_alloc | apply pw_below_drewN | apply below_drew1) | exact HB.out)⟩⟩
  case round =>
   clear H'
   try clear c2
   try clear p2
   obtain ⟨x3_1, x4_1, rfl, HA, HK1, HO_3, HB⟩ := hrel
   cases gk with
   | zero => exact absurd HA.out (by simp [portcullisref04_Order.l0])
   | succ k1 =>
    have H := HA.out
    clear HA
    simp only [portcullisref04_Order.l0] at H
    by_cases c4 : x4_1 = true
    ·subst c4
     have H1 : (portcullisref04_Order.l1 k1 x3_1 false 1) = some r := by rw [if_pos rfl] at H; exact H
     clear H
     have H := H1
     clear H1
     have H' := Aside0.mk H
     clear H
     go_wp2
     go_loopg [4, 5] k1 (fun kq v4 v5 w' => ∃ (x3_2 : List Int) (x4_2 : Bool) (x5_2 : Int), v4 = .bool x4_2 ∧ v5 = .int .i64 x5_2 ∧ Aside0 (portcullisref04_Order.l1 kq x3_2 x4_2 x5_2 = some r) ∧ Aside0 (kq ≤ k1) ∧ Aside0 (Kd.R (Kd.int .i32) 21 w' w.heap.size (fun _ => True) v300 x3_2) ∧ Aside0 (Below w.heap.size w w'))
     case atStart => exact ⟨(x3_1), (false), (1), (by first | rfl | (simp; done) | (simp [*]; done)), (by first | rfl | (simp; done) | (simp [*]; done)), H', ⟨Nat.le_refl _⟩, ⟨by (with_reducible repeat (first | apply Kd.R_alloc | apply Kd.R_drewN | apply Kd.R_drew)); exact HO_3.out⟩, ⟨by repeat (first | (with_reducible first | exact HB.out | apply below_alloc | apply pw_below_drewN | apply below_drew1) | exact HB.out)⟩⟩
     case round =>
      clear H'
      try clear c2
      try clear p2
      try clear c4
      try clear p2
      obtain ⟨x3_2, x4_2, x5_2, rfl, rfl, HA, HK2, HO_3, HB⟩ := hrel
      cases gk with
      | zero => exact absurd HA.out (by simp [portcullisref04_Order.l1])
      | succ k2 =>
       have H := HA.out
       clear HA
       simp only [portcullisref04_Order.l1] at H
       by_cases c5 : x5_2 < (x3_2.length : Int)
       ·rw [if_pos c5] at H
        have c5b0 : decide (x5_2 < (x3_2.length : Int)) = true := decide_eq_true c5
        clear c5
        obtain ⟨ji6, hji6⟩ : ∃ j_ : Int, (wrap64 (x5_2 - 1)) = j_ := ⟨_, rfl⟩
        replace H : (if 0 ≤ (ji6) then (if (ji6) < (x3_2.length : Int) then ((portcullisref04_class.f k2 (rd x3_2 (ji6))).bind fun t303 => (if 0 ≤ x5_2 then ((portcullisref04_class.f k2 (rd x3_2 x5_2)).bind fun t305 => (if t305 = 0 then (portcullisref04_Order.l1 k2 x3_2 x4_2 (wrap64 (x5_2 + 1))) else (if t303 > t305 then (portcullisref04_Order.l1 k2 ((x3_2.set ((ji6) : Int).toNat (rd x3_2 x5_2)).set (x5_2 : Int).toNat (rd x3_2 (ji6))) true (wrap64 (x5_2 + 1))) else (portcullisref04_Order.l1 k2 x3_2 x4_2 (wrap64 (x5_2 + 1)))))) else (none))) else (none)) else (none)) = some r := by first | (rw [hji6] at H; exact H) | (simp only [hji6] at H ⊢; exact H)
        have hji6w : (IntKind.i64.wrap (x5_2 - 1)) = ji6 := (i64_w _).trans hji6
        by_cases c7 : 0 ≤ (ji6)
        ·rw [if_pos c7] at H
         have c7b0 : decide (0 ≤ (ji6)) = true := decide_eq_true c7
         clear c7
         by_cases c8 : (ji6) < (x3_2.length : Int)
         ·rw [if_pos c8] at H
          have c8b0 : decide ((ji6) < (x3_2.length : Int)) = true := decide_eq_true c8
          clear c8
          replace H := Option.bind_eq_some_iff.mp H
          obtain ⟨t303, A90, H⟩ := H
          replace H : (if 0 ≤ x5_2 then ((portcullisref04_class.f k2 (rd x3_2 x5_2)).bind fun t305 => (if t305 = 0 then (portcullisref04_Order.l1 k2 x3_2 x4_2 (wrap64 (x5_2 + 1))) else (if t303 > t305 then (portcullisref04_Order.l1 k2 ((x3_2.set ((ji6) : Int).toNat (rd x3_2 x5_2)).set (x5_2 : Int).toNat (rd x3_2 (ji6))) true (wrap64 (x5_2 + 1))) else (portcullisref04_Order.l1 k2 x3_2 x4_2 (wrap64 (x5_2 + 1)))))) else (none)) = some r := H
          have A9 := Aside0.mk A90
          clear A90
          by_cases c10 : 0 ≤ x5_2
          ·rw [if_pos c10] at H
           have c10b0 : decide (0 ≤ x5_2) = true := decide_eq_true c10
           clear c10
           replace H := Option.bind_eq_some_iff.mp H
           obtain ⟨t305, A110, H⟩ := H
           replace H : (if t305 = 0 then (portcullisref04_Order.l1 k2 x3_2 x4_2 (wrap64 (x5_2 + 1))) else (if t303 > t305 then (portcullisref04_Order.l1 k2 ((x3_2.set ((ji6) : Int).toNat (rd x3_2 x5_2)).set (x5_2 : Int).toNat (rd x3_2 (ji6))) true (wrap64 (x5_2 + 1))) else (portcullisref04_Order.l1 k2 x3_2 x4_2 (wrap64 (x5_2 + 1))))) = some r := H
           have A11 := Aside0.mk A110
           clear A110
           by_cases c12 : t305 = 0
           ·rw [if_pos c12] at H
            have c12b0 : (t305 == 0) = true := beq_iff_eq.mpr c12
            have c12b1 : (t305 != 0) = false := bne_eq_false_iff_eq.mpr c12
            clear c12
            have H' := Aside0.mk H
            clear H
            obtain ⟨Ao13, co13, eo13⟩ := Kd.R_slice HO_3.out
            subst eo13
            try go_wp2
            have n0_ := Aside0.mk (Kd.R_drew HO_3.out)
            have n1_ := Aside0.mk (below_drew1 HB.out)
            clear HO_3
            clear HB
            have HO_3 := n0_
            have HB := n1_
            clear n0_ n1_
            have p302 : 0 ≤ ((ji6) : Int) := of_decide_eq_true (by first | (with_reducible assumption) | assumption)
            have q302 : (ji6) < (x3_2.length : Int) := of_decide_eq_true (by first | (with_reducible assumption) | assumption)
            obtain ⟨ad302, e302, hx302_0⟩ := Kd.at_int (Kd.R_reads' HO_3.out).2.2 (ji6) p302 q302
            cases e302
            replace p302 := eq_true p302
            replace q302 := eq_true q302
            have p304 : 0 ≤ (x5_2 : Int) := of_decide_eq_true (by first | (with_reducible assumption) | assumption)
            have q304 : x5_2 < (x3_2.length : Int) := of_decide_eq_true (by first | (with_reducible assumption) | assumption)
            obtain ⟨ad304, e304, hx304_0⟩ := Kd.at_int (Kd.R_reads' HO_3.out).2.2 x5_2 p304 q304
            obtain rfl : ad302 = ad304 := (by injection e304)
            replace p304 := eq_true p304
            replace q304 := eq_true q304
            refine start_ (n := 13) (S := fun w' => w'.cell? (ad302.add ((ji6)).toNat) = some (.int .i32 (rd x3_2 (ji6))) ∧ w'.cell? (ad302.add (x5_2).toNat) = some (.int .i32 (rd x3_2 x5_2))) (ds := []) #[false, false, false, false, false, false, false, false, false, false, false, false, false] (by kernel_rfl) rfl rfl ⟨hx302_0, hx304_0⟩ (fun hHeld => ?_); refine with_tabW portcullisref04_Order.tab9 portcullisref04_Order.bits9 (fun HT_ HW_ => ?_)
            generalize wr.drew = w14 at HO_3 HB hx302_0 hx304_0 hHeld ⊢
            refine pure_ (i := 0) (N := some 18) (v := ?_) (a' := ?_) #[true, false, false, false, false, false, false, false, false, false, false, false, false] rfl rfl (any_of HT_.out (by kernel_rfl)) (fun _ _ _ h => h) (Or.inl ⟨by rfl, ?_⟩) ?_ ?_
            rotate_left
            ·intro w'
             go_simp
             first | with_reducible rfl | (rw [if_neg (by (try simp only [ByteArray.size_extract] at *); omega)])
            rotate_left
            ·simp only [Act.put, List.setIfInBounds_toArray, List.set_cons_zero, List.set_cons_succ, i64_w, i32_w]
             rfl
            refine pure_ (i := 1) (N := some 19) (v := ?_) (a' := ?_) #[true, true, false, false, false, false, false, false, false, false, false, false, false] rfl rfl (any_of HT_.out (by kernel_rfl)) (fun _ _ _ h => h) (Or.inl ⟨by rfl, ?_⟩) ?_ ?_
            rotate_left
            ·intro w'
             go_simp
             first | with_reducible rfl | (rw [if_neg (by (try simp only [ByteArray.size_extract] at *); omega)])
            rotate_left
            ·simp only [Act.put, List.setIfInBounds_toArray, List.set_cons_zero, List.set_cons_succ, i64_w, i32_w]
             rfl
            refine pure_ (i := 2) (N := some 20) (v := ?_) (a' := ?_) #[true, true, true, false, false, false, false, false, false, false, false, false, false] rfl rfl (any_of HT_.out (by kernel_rfl)) (fun _ _ _ h => h) (Or.inl ⟨by rfl, ?_⟩) ?_ ?_
            rotate_left
            ·intro w'
             go_simp
             first | with_reducible rfl | (rw [if_neg (by (try simp only [ByteArray.size_extract] at *); omega)])
            rotate_left
            ·simp only [Act.put, List.setIfInBounds_toArray, List.set_cons_zero, List.set_cons_succ, i64_w, i32_w]
             rfl
            refine pure_ (i := 3) (N := some 21) (v := ?_) (a' := ?_) #[true, true, true, true, false, false, false, false, false, false, false, false, false] rfl rfl (any_of HT_.out (by kernel_rfl)) (fun _ _ _ h => h) (Or.inl ⟨by rfl, ?_⟩) ?_ ?_
            rotate_left
            ·intro w'
             go_simp
             first | with_reducible rfl | (rw [if_neg (by (try simp only [ByteArray.size_extract] at *); omega)])
            rotate_left
            ·simp only [Act.put, List.setIfInBounds_toArray, List.set_cons_zero, List.set_cons_succ, i64_w, i32_w]
             rfl
            refine pure_ (i := 6) (N := some 24) (v := ?_) (a' := ?_) #[true, true, true, true, false, false, true, false, false, false, false, false, false] rfl rfl (any_of HT_.out (by kernel_rfl)) (fun _ _ _ h => h) (Or.inl ⟨by rfl, ?_⟩) ?_ ?_
            rotate_left
            ·intro w'
             go_simp
             first | with_reducible rfl | (rw [if_neg (by (try simp only [ByteArray.size_extract] at *); omega)])
            rotate_left
            ·simp only [Act.put, List.setIfInBounds_toArray, List.set_cons_zero, List.set_cons_succ, i64_w, i32_w]
             rfl
            refine pure_ (i := 7) (N := some 25) (v := ?_) (a' := ?_) #[true, true, true, true, false, false, true, true, false, false, false, false, false] rfl rfl (any_of HT_.out (by kernel_rfl)) (fun _ _ _ h => h) (Or.inl ⟨by rfl, ?_⟩) ?_ ?_
            rotate_left
            ·intro w'
             go_simp
             first | with_reducible rfl | (rw [if_neg (by (try simp only [ByteArray.size_extract] at *); omega)])
            rotate_left
            ·simp only [Act.put, List.setIfInBounds_toArray, List.set_cons_zero, List.set_cons_succ, i64_w, i32_w]
             rfl
            refine pure_ (i := 8) (N := some 26) (v := ?_) (a' := ?_) #[true, true, true, true, false, false, true, true, true, false, false, false, false] rfl rfl (any_of HT_.out (by kernel_rfl)) (fun _ _ _ h => h) (Or.inl ⟨by rfl, ?_⟩) ?_ ?_
            rotate_left
            ·intro w'
             go_simp
             first | with_reducible rfl | (rw [if_neg (by (try simp only [ByteArray.size_extract] at *); omega)])
            rotate_left
            ·simp only [Act.put, List.setIfInBounds_toArray, List.set_cons_zero, List.set_cons_succ, i64_w, i32_w]
             rfl
            refine take_ (i := 4) (N := some 22) (v := ?_) (a' := ?_) #[true, true, true, true, true, false, true, true, true, false, false, false, false] rfl rfl (take_ofW HT_.out HW_.out (by kernel_rfl)) (fun _ _ _ h => h) (Or.inl ⟨by rfl, ?_⟩) hHeld ?_ ?_
            rotate_left
            ·rintro w' ⟨s0, s1⟩
             go_simp
             first | with_reducible rfl | (rw [if_neg (by (try simp only [ByteArray.size_extract] at *); omega)])
            rotate_left
            ·simp only [Act.put, List.setIfInBounds_toArray, List.set_cons_zero, List.set_cons_succ, i64_w, i32_w]
             rfl
            refine take_ (i := 9) (N := some 27) (v := ?_) (a' := ?_) #[true, true, true, true, true, false, true, true, true, true, false, false, false] rfl rfl (take_ofW HT_.out HW_.out (by kernel_rfl)) (fun _ _ _ h => h) (Or.inl ⟨by rfl, ?_⟩) hHeld ?_ ?_
            rotate_left
            ·rintro w' ⟨s0, s1⟩
             go_simp
             first | with_reducible rfl | (rw [if_neg (by (try simp only [ByteArray.size_extract] at *); omega)])
            rotate_left
            ·simp only [Act.put, List.setIfInBounds_toArray, List.set_cons_zero, List.set_cons_succ, i64_w, i32_w]
             rfl
            refine one_ (i := 5) (N := some 23) #[true, true, true, true, true, true, true, true, true, true, false, false, false] rfl rfl (one_of HT_.out (by kernel_rfl)) (by decide) (fun K hK => ?_)
            refine goes_ Tryd.func46 (by kernel_rfl) rfl #[.int .i32 (rd x3_2 (ji6))] (by rfl) rfl rfl (by (try simp only [List.map_toArray, List.map_cons, List.map_nil]); first | done | (simp only [hji6]; rfl) | rfl | (simp only [List.length_drop, List.length_take]; rfl)) ?_
            with_reducible refine (portcullisref04_class.calls k2 (rd x3_2 (ji6)) t303 _ A9.out).mono ?_
            rintro e w15 ⟨rfl, hb⟩
            have HS0_ := (hb.cell (World.block_lt_of_cell? _ _ (hHeld.1))).trans (hHeld.1)
            have HS1_ := (hb.cell (World.block_lt_of_cell? _ _ (hHeld.2))).trans (hHeld.2)
            refine ⟨_, rfl, ?_⟩
            have n0_ := Aside0.mk (Kd.R_below (by (with_reducible repeat (first | apply Kd.R_alloc | apply Kd.R_drewN | apply Kd.R_drew)); exact HO_3.out) hb)
            have n1_ := Aside0.mk (below_step (by repeat (first | (with_reducible first | exact HB.out | apply below_alloc | apply pw_below_drewN | apply below_drew1) | exact HB.out)) hb)
            clear HO_3
            clear HB
            have HO_3 := n0_
            have HB := n1_
            clear n0_ n1_
            (try clear hb)
            (try clear hb2)
            (try clear hk)
            (try clear hi)
            refine hK.out _ _ ⟨HS0_, HS1_⟩ (fun hHeld => ?_)
            clear hK K
            refine norm_ (a' := ?_) ?_ ?_
            rotate_left
            ·show Act.put _ (some 23) _ = _
             simp only [Act.put, List.setIfInBounds_toArray, List.set_cons_zero, List.set_cons_succ, i64_w, i32_w]
             rfl
            refine one_ (i := 10) (N := some 28) #[true, true, true, true, true, true, true, true, true, true, true, false, false] rfl rfl (one_of HT_.out (by kernel_rfl)) (by decide) (fun K hK => ?_)
            refine goes_ Tryd.func46 (by kernel_rfl) rfl #[.int .i32 (rd x3_2 x5_2)] (by rfl) rfl rfl (by (try simp only [List.map_toArray, List.map_cons, List.map_nil]); first | done | rfl | (simp only [List.length_drop, List.length_take]; rfl)) ?_
            with_reducible refine (portcullisref04_class.calls k2 (rd x3_2 x5_2) t305 _ A11.out).mono ?_
            rintro e w16 ⟨rfl, hb⟩
            have HS0_ := (hb.cell (World.block_lt_of_cell? _ _ (hHeld.1))).trans (hHeld.1)
            have HS1_ := (hb.cell (World.block_lt_of_cell? _ _ (hHeld.2))).trans (hHeld.2)
            refine ⟨_, rfl, ?_⟩
            have n0_ := Aside0.mk (Kd.R_below (by (with_reducible repeat (first | apply Kd.R_alloc | apply Kd.R_drewN | apply Kd.R_drew)); exact HO_3.out) hb)
            have n1_ := Aside0.mk (below_step (by repeat (first | (with_reducible first | exact HB.out | apply below_alloc | apply pw_below_drewN | apply below_drew1) | exact HB.out)) hb)
            clear HO_3
            clear HB
            have HO_3 := n0_
            have HB := n1_
            clear n0_ n1_
            (try clear hb)
            (try clear hb2)
            (try clear hk)
            (try clear hi)
            refine hK.out _ _ ⟨HS0_, HS1_⟩ (fun hHeld => ?_)
            clear hK K
            refine norm_ (a' := ?_) ?_ ?_
            rotate_left
            ·show Act.put _ (some 28) _ = _
             simp only [Act.put, List.setIfInBounds_toArray, List.set_cons_zero, List.set_cons_succ, i64_w, i32_w]
             rfl
            refine pure_ (i := 11) (N := some 6) (v := ?_) (a' := ?_) #[true, true, true, true, true, true, true, true, true, true, true, true, false] rfl rfl (any_of HT_.out (by kernel_rfl)) (fun _ _ _ h => h) (Or.inl ⟨by rfl, ?_⟩) ?_ ?_
            rotate_left
            ·intro w'
             go_simp
             first | with_reducible rfl | (rw [if_neg (by (try simp only [ByteArray.size_extract] at *); omega)])
            rotate_left
            ·simp only [Act.put, List.setIfInBounds_toArray, List.set_cons_zero, List.set_cons_succ, i64_w, i32_w]
             rfl
            refine pure_ (i := 12) (N := some 7) (v := ?_) (a' := ?_) #[true, true, true, true, true, true, true, true, true, true, true, true, true] rfl rfl (any_of HT_.out (by kernel_rfl)) (fun _ _ _ h => h) (Or.inl ⟨by rfl, ?_⟩) ?_ ?_
            rotate_left
            ·intro w'
             go_simp
             first | with_reducible rfl | (rw [if_neg (by (try simp only [ByteArray.size_extract] at *); omega)])
            rotate_left
            ·simp only [Act.put, List.setIfInBounds_toArray, List.set_cons_zero, List.set_cons_succ, i64_w, i32_w]
             rfl
            refine done_ (done_of HT_.out (by kernel_rfl)) ?_
            try go_wp2
            go_roundg k2
            case measure => have := HK1.out; have := HK2.out; omega
            case rel => exact ⟨(x3_2), (x4_2), (wrap64 (x5_2 + 1)), (by first | rfl | (simp; done) | (simp [*]; done)), (by first | rfl | (simp; done) | (simp [*]; done)), H', ⟨by have := HK1.out; have := HK2.out; omega⟩, ⟨by (with_reducible repeat (first | apply Kd.R_alloc | apply Kd.R_drewN | apply Kd.R_drew)); exact HO_3.out⟩, ⟨by repeat (first | (with_reducible first | exact HB.out | apply below_alloc | apply pw_below_drewN | apply below_drew1) | exact HB.out)⟩⟩
           ·rw [if_neg c12] at H
            have c12b0 : (t305 == 0) = false := beq_eq_false_iff_ne.mpr c12
            have c12b1 : (t305 != 0) = true := bne_iff_ne.mpr c12
            by_cases c17 : t303 > t305
            ·rw [if_pos c17] at H
             have c17b0 : decide (t305 < t303) = true := decide_eq_true c17
             clear c17
             obtain ⟨y308, hy308⟩ : ∃ y_ : List Int, y_ = (x3_2.set ((ji6) : Int).toNat (rd x3_2 x5_2)) := ⟨_, rfl⟩
             replace H : (portcullisref04_Order.l1 k2 (y308.set (x5_2 : Int).toNat (rd x3_2 (ji6))) true (wrap64 (x5_2 + 1))) = some r := by first | (rw [hy308]; with_reducible exact H) | (have H2_ := (Option.bind_some _ _).symm.trans H; rw [hy308]; with_reducible exact H2_) | (have H2_ := (Option.bind_some _ _).symm.trans H; with_reducible exact H2_) | with_reducible exact H | (rw [hy308]; exact H) | exact H
             have Ny308 := Aside0.mk hy308
             clear hy308
             obtain ⟨y309, hy309⟩ : ∃ y_ : List Int, y_ = (y308.set (x5_2 : Int).toNat (rd x3_2 (ji6))) := ⟨_, rfl⟩
             replace H : (portcullisref04_Order.l1 k2 y309 true (wrap64 (x5_2 + 1))) = some r := by first | (rw [hy309]; with_reducible exact H) | (have H2_ := (Option.bind_some _ _).symm.trans H; rw [hy309]; with_reducible exact H2_) | (have H2_ := (Option.bind_some _ _).symm.trans H; with_reducible exact H2_) | with_reducible exact H | (rw [hy309]; exact H) | exact H
             have Ny309 := Aside0.mk hy309
             clear hy309
             have H' := Aside0.mk H
             clear H
             obtain ⟨Ao20, co20, eo20⟩ := Kd.R_slice HO_3.out
             subst eo20
             try go_wp2
             have n0_ := Aside0.mk (Kd.R_drew HO_3.out)
             have n1_ := Aside0.mk (below_drew1 HB.out)
             clear HO_3
             clear HB
             have HO_3 := n0_
             have HB := n1_
             clear n0_ n1_
             have p302 : 0 ≤ ((ji6) : Int) := of_decide_eq_true (by first | (with_reducible assumption) | assumption)
             have q302 : (ji6) < (x3_2.length : Int) := of_decide_eq_true (by first | (with_reducible assumption) | assumption)
             obtain ⟨ad302, e302, hx302_0⟩ := Kd.at_int (Kd.R_reads' HO_3.out).2.2 (ji6) p302 q302
             cases e302
             replace p302 := eq_true p302
             replace q302 := eq_true q302
             have p304 : 0 ≤ (x5_2 : Int) := of_decide_eq_true (by first | (with_reducible assumption) | assumption)
             have q304 : x5_2 < (x3_2.length : Int) := of_decide_eq_true (by first | (with_reducible assumption) | assumption)
             obtain ⟨ad304, e304, hx304_0⟩ := Kd.at_int (Kd.R_reads' HO_3.out).2.2 x5_2 p304 q304
             obtain rfl : ad302 = ad304 := (by injection e304)
             replace p304 := eq_true p304
             replace q304 := eq_true q304
             refine start_ (n := 13) (S := fun w' => w'.cell? (ad302.add ((ji6)).toNat) = some (.int .i32 (rd x3_2 (ji6))) ∧ w'.cell? (ad302.add (x5_2).toNat) = some (.int .i32 (rd x3_2 x5_2))) (ds := []) #[false, false, false, false, false, false, false, false, false, false, false, false, false] (by kernel_rfl) rfl rfl ⟨hx302_0, hx304_0⟩ (fun hHeld => ?_); refine with_tabW portcullisref04_Order.tab9 portcullisref04_Order.bits9 (fun HT_ HW_ => ?_)
             generalize wr.drew = w21 at HO_3 HB hx302_0 hx304_0 hHeld ⊢
             refine pure_ (i := 0) (N := some 18) (v := ?_) (a' := ?_) #[true, false, false, false, false, false, false, false, false, false, false, false, false] rfl rfl (any_of HT_.out (by kernel_rfl)) (fun _ _ _ h => h) (Or.inl ⟨by rfl, ?_⟩) ?_ ?_
             rotate_left
             ·intro w'
              go_simp
              first | with_reducible rfl | (rw [if_neg (by (try simp only [ByteArray.size_extract] at *); omega)])
             rotate_left
             ·simp only [Act.put, List.setIfInBounds_toArray, List.set_cons_zero, List.set_cons_succ, i64_w, i32_w]
              rfl
             refine pure_ (i := 1) (N := some 19) (v := ?_) (a' := ?_) #[true, true, false, false, false, false, false, false, false, false, false, false, false] rfl rfl (any_of HT_.out (by kernel_rfl)) (fun _ _ _ h => h) (Or.inl ⟨by rfl, ?_⟩) ?_ ?_
             rotate_left
             ·intro w'
              go_simp
              first | with_reducible rfl | (rw [if_neg (by (try simp only [ByteArray.size_extract] at *); omega)])
             rotate_left
             ·simp only [Act.put, List.setIfInBounds_toArray, List.set_cons_zero, List.set_cons_succ, i64_w, i32_w]
              rfl
             refine pure_ (i := 2) (N := some 20) (v := ?_) (a' := ?_) #[true, true, true, false, false, false, false, false, false, false, false, false, false] rfl rfl (any_of HT_.out (by kernel_rfl)) (fun _ _ _ h => h) (Or.inl ⟨by rfl, ?_⟩) ?_ ?_
             rotate_left
             ·intro w'
              go_simp
              first | with_reducible rfl | (rw [if_neg (by (try simp only [ByteArray.size_extract] at *); omega)])
             rotate_left
             ·simp only [Act.put, List.setIfInBounds_toArray, List.set_cons_zero, List.set_cons_succ, i64_w, i32_w]
              rfl
             refine pure_ (i := 3) (N := some 21) (v := ?_) (a' := ?_) #[true, true, true, true, false, false, false, false, false, false, false, false, false] rfl rfl (any_of HT_.out (by kernel_rfl)) (fun _ _ _ h => h) (Or.inl ⟨by rfl, ?_⟩) ?_ ?_
             rotate_left
             ·intro w'
              go_simp
              first | with_reducible rfl | (rw [if_neg (by (try simp only [ByteArray.size_extract] at *); omega)])
             rotate_left
             ·simp only [Act.put, List.setIfInBounds_toArray, List.set_cons_zero, List.set_cons_succ, i64_w, i32_w]
              rfl
             refine pure_ (i := 6) (N := some 24) (v := ?_) (a' := ?_) #[true, true, true, true, false, false, true, false, false, false, false, false, false] rfl rfl (any_of HT_.out (by kernel_rfl)) (fun _ _ _ h => h) (Or.inl ⟨by rfl, ?_⟩) ?_ ?_
             rotate_left
             ·intro w'
              go_simp
              first | with_reducible rfl | (rw [if_neg (by (try simp only [ByteArray.size_extract] at *); omega)])
             rotate_left
             ·simp only [Act.put, List.setIfInBounds_toArray, List.set_cons_zero, List.set_cons_succ, i64_w, i32_w]
              rfl
             refine pure_ (i := 7) (N := some 25) (v := ?_) (a' := ?_) #[true, true, true, true, false, false, true, true, false, false, false, false, false] rfl rfl (any_of HT_.out (by kernel_rfl)) (fun _ _ _ h => h) (Or.inl ⟨by rfl, ?_⟩) ?_ ?_
             rotate_left
             ·intro w'
              go_simp
              first | with_reducible rfl | (rw [if_neg (by (try simp only [ByteArray.size_extract] at *); omega)])
             rotate_left
             ·simp only [Act.put, List.setIfInBounds_toArray, List.set_cons_zero, List.set_cons_succ, i64_w, i32_w]
              rfl
             refine pure_ (i := 8) (N := some 26) (v := ?_) (a' := ?_) #[true, true, true, true, false, false, true, true, true, false, false, false, false] rfl rfl (any_of HT_.out (by kernel_rfl)) (fun _ _ _ h => h) (Or.inl ⟨by rfl, ?_⟩) ?_ ?_
             rotate_left
             ·intro w'
              go_simp
              first | with_reducible rfl | (rw [if_neg (by (try simp only [ByteArray.size_extract] at *); omega)])
             rotate_left
             ·simp only [Act.put, List.setIfInBounds_toArray, List.set_cons_zero, List.set_cons_succ, i64_w, i32_w]
              rfl
             refine take_ (i := 4) (N := some 22) (v := ?_) (a' := ?_) #[true, true, true, true, true, false, true, true, true, false, false, false, false] rfl rfl (take_ofW HT_.out HW_.out (by kernel_rfl)) (fun _ _ _ h => h) (Or.inl ⟨by rfl, ?_⟩) hHeld ?_ ?_
             rotate_left
             ·rintro w' ⟨s0, s1⟩
              go_simp
              first | with_reducible rfl | (rw [if_neg (by (try simp only [ByteArray.size_extract] at *); omega)])
             rotate_left
             ·simp only [Act.put, List.setIfInBounds_toArray, List.set_cons_zero, List.set_cons_succ, i64_w, i32_w]
              rfl
             refine take_ (i := 9) (N := some 27) (v := ?_) (a' := ?_) #[true, true, true, true, true, false, true, true, true, true, false, false, false] rfl rfl (take_ofW HT_.out HW_.out (by kernel_rfl)) (fun _ _ _ h => h) (Or.inl ⟨by rfl, ?_⟩) hHeld ?_ ?_
             rotate_left
             ·rintro w' ⟨s0, s1⟩
              go_simp
              first | with_reducible rfl | (rw [if_neg (by (try simp only [ByteArray.size_extract] at *); omega)])
             rotate_left
             ·simp only [Act.put, List.setIfInBounds_toArray, List.set_cons_zero, List.set_cons_succ, i64_w, i32_w]
              rfl
             refine one_ (i := 5) (N := some 23) #[true, true, true, true, true, true, true, true, true, true, false, false, false] rfl rfl (one_of HT_.out (by kernel_rfl)) (by decide) (fun K hK => ?_)
             refine goes_ Tryd.func46 (by kernel_rfl) rfl #[.int .i32 (rd x3_2 (ji6))] (by rfl) rfl rfl (by (try simp only [List.map_toArray, List.map_cons, List.map_nil]); first | done | (simp only [hji6]; rfl) | rfl | (simp only [List.length_drop, List.length_take]; rfl)) ?_
             with_reducible refine (portcullisref04_class.calls k2 (rd x3_2 (ji6)) t303 _ A9.out).mono ?_
             rintro e w22 ⟨rfl, hb⟩
             have HS0_ := (hb.cell (World.block_lt_of_cell? _ _ (hHeld.1))).trans (hHeld.1)
             have HS1_ := (hb.cell (World.block_lt_of_cell? _ _ (hHeld.2))).trans (hHeld.2)
             refine ⟨_, rfl, ?_⟩
             have n0_ := Aside0.mk (Kd.R_below (by (with_reducible repeat (first | apply Kd.R_alloc | apply Kd.R_drewN | apply Kd.R_drew)); exact HO_3.out) hb)
             have n1_ := Aside0.mk (below_step (by repeat (first | (with_reducible first | exact HB.out | apply below_alloc | apply pw_below_drewN | apply below_drew1) | exact HB.out)) hb)
             clear HO_3
             clear HB
             have HO_3 := n0_
             have HB := n1_
             clear n0_ n1_
             (try clear hb)
             (try clear hb2)
             (try clear hk)
             (try clear hi)
             refine hK.out _ _ ⟨HS0_, HS1_⟩ (fun hHeld => ?_)
             clear hK K
             refine norm_ (a' := ?_) ?_ ?_
             rotate_left
             ·show Act.put _ (some 23) _ = _
              simp only [Act.put, List.setIfInBounds_toArray, List.set_cons_zero, List.set_cons_succ, i64_w, i32_w]
              rfl
             refine one_ (i := 10) (N := some 28) #[true, true, true, true, true, true, true, true, true, true, true, false, false] rfl rfl (one_of HT_.out (by kernel_rfl)) (by decide) (fun K hK => ?_)
             refine goes_ Tryd.func46 (by kernel_rfl) rfl #[.int .i32 (rd x3_2 x5_2)] (by rfl) rfl rfl (by (try simp only [List.map_toArray, List.map_cons, List.map_nil]); first | done | rfl | (simp only [List.length_drop, List.length_take]; rfl)) ?_
             with_reducible refine (portcullisref04_class.calls k2 (rd x3_2 x5_2) t305 _ A11.out).mono ?_
             rintro e w23 ⟨rfl, hb⟩
             have HS0_ := (hb.cell (World.block_lt_of_cell? _ _ (hHeld.1))).trans (hHeld.1)
             have HS1_ := (hb.cell (World.block_lt_of_cell? _ _ (hHeld.2))).trans (hHeld.2)
             refine ⟨_, rfl, ?_⟩
             have n0_ := Aside0.mk (Kd.R_below (by (with_reducible repeat (first | apply Kd.R_alloc | apply Kd.R_drewN | apply Kd.R_drew)); exact HO_3.out) hb)
             have n1_ := Aside0.mk (below_step (by repeat (first | (with_reducible first | exact HB.out | apply below_alloc | apply pw_below_drewN | apply below_drew1) | exact HB.out)) hb)
             clear HO_3
             clear HB
             have HO_3 := n0_
             have HB := n1_
             clear n0_ n1_
             (try clear hb)
             (try clear hb2)
             (try clear hk)
             (try clear hi)
             refine hK.out _ _ ⟨HS0_, HS1_⟩ (fun hHeld => ?_)
             clear hK K
             refine norm_ (a' := ?_) ?_ ?_
             rotate_left
             ·show Act.put _ (some 28) _ = _
              simp only [Act.put, List.setIfInBounds_toArray, List.set_cons_zero, List.set_cons_succ, i64_w, i32_w]
              rfl
             refine pure_ (i := 11) (N := some 6) (v := ?_) (a' := ?_) #[true, true, true, true, true, true, true, true, true, true, true, true, false] rfl rfl (any_of HT_.out (by kernel_rfl)) (fun _ _ _ h => h) (Or.inl ⟨by rfl, ?_⟩) ?_ ?_
             rotate_left
             ·intro w'
              go_simp
              first | with_reducible rfl | (rw [if_neg (by (try simp only [ByteArray.size_extract] at *); omega)])
             rotate_left
             ·simp only [Act.put, List.setIfInBounds_toArray, List.set_cons_zero, List.set_cons_succ, i64_w, i32_w]
              rfl
             refine pure_ (i := 12) (N := some 7) (v := ?_) (a' := ?_) #[true, true, true, true, true, true, true, true, true, true, true, true, true] rfl rfl (any_of HT_.out (by kernel_rfl)) (fun _ _ _ h => h) (Or.inl ⟨by rfl, ?_⟩) ?_ ?_
             rotate_left
             ·intro w'
              go_simp
              first | with_reducible rfl | (rw [if_neg (by (try simp only [ByteArray.size_extract] at *); omega)])
             rotate_left
             ·simp only [Act.put, List.setIfInBounds_toArray, List.set_cons_zero, List.set_cons_succ, i64_w, i32_w]
              rfl
             refine done_ (done_of HT_.out (by kernel_rfl)) ?_
             try go_wp2
             have n0_ := Aside0.mk (Kd.R_drew HO_3.out)
             have n1_ := Aside0.mk (below_drew1 HB.out)
             clear HO_3
             clear HB
             have HO_3 := n0_
             have HB := n1_
             clear n0_ n1_
             have p306 : 0 ≤ (x5_2 : Int) := of_decide_eq_true (by first | (with_reducible assumption) | assumption)
             have q306 : x5_2 < (x3_2.length : Int) := of_decide_eq_true (by first | (with_reducible assumption) | assumption)
             obtain ⟨ad306, e306, hx306_0⟩ := Kd.at_int (Kd.R_reads' HO_3.out).2.2 x5_2 p306 q306
             obtain rfl : ad302 = ad306 := (by injection e306)
             replace p306 := eq_true p306
             replace q306 := eq_true q306
             have p307 : 0 ≤ ((ji6) : Int) := of_decide_eq_true (by first | (with_reducible assumption) | assumption)
             have q307 : (ji6) < (x3_2.length : Int) := of_decide_eq_true (by first | (with_reducible assumption) | assumption)
             obtain ⟨ad307, e307, hx307_0⟩ := Kd.at_int (Kd.R_reads' HO_3.out).2.2 (ji6) p307 q307
             obtain rfl : ad302 = ad307 := (by injection e307)
             replace p307 := eq_true p307
             replace q307 := eq_true q307
             have p18 : 0 ≤ ((ji6) : Int) := of_decide_eq_true (by first | (with_reducible assumption) | assumption)
             have q18 : ((ji6) : Int) < ((x3_2.length : Int) : Int) := of_decide_eq_true (by first | (with_reducible assumption) | assumption)
             obtain ⟨go18, co18, eo18, gb18, gl18, cl18, HG18⟩ := Kd.R_form HO_3.out (by omega)
             (first | cases eo18 | (injection eo18 with ea_ en_ ec_; (first | subst ea_ | (injection ea_ with ea_; subst ea_)); subst ec_; clear en_))
             have GB18 := Aside0.mk gb18
             have GG18 := Aside0.mk HG18
             clear gb18 gl18 HG18
             (first | simp only [add_plain] at hx302_0 | skip)
             (first | simp only [add_plain] at hx304_0 | skip)
             (first | simp only [add_plain] at hx306_0 | skip)
             (first | simp only [add_plain] at hx307_0 | skip)
             obtain ⟨hx18_0, hf18_0⟩ := Kd.R_celln 0 HO_3.out ((ji6) : Int) p18 q18
             replace p18 := eq_true p18
             replace q18 := eq_true q18
             have HP25 := Kd.R_putn HO_3.out ((ji6) : Int) (rd x3_2 x5_2)
             rw [← Ny308.out] at HP25
             have HQ25 := Aside0.mk HP25
             clear HP25
             have p19 : 0 ≤ (x5_2 : Int) := of_decide_eq_true (by first | (with_reducible assumption) | assumption)
             have q19 : (x5_2 : Int) < ((x3_2.length : Int) : Int) := of_decide_eq_true (by first | (with_reducible assumption) | assumption)
             obtain ⟨hx19_0, hf19_0⟩ := Kd.R_celln 0 HQ25.out (x5_2 : Int) p19 q19
             replace p19 := eq_true p19
             replace q19 := eq_true q19
             have HP26 := Kd.R_putn HQ25.out (x5_2 : Int) (rd x3_2 (ji6))
             rw [← Ny309.out] at HP26
             have HQ26 := Aside0.mk HP26
             clear HP26
             refine start_ (n := 18) (S := fun w' => w'.cell? ⟨go18, (x5_2).toNat, none⟩ = some (.int .i32 (rd x3_2 x5_2)) ∧ w'.cell? ⟨go18, ((ji6)).toNat, none⟩ = some (.int .i32 (rd x3_2 (ji6)))) (ds := [15, 17]) #[false, false, false, false, false, false, false, false, false, false, false, false, false, false, false, false, false, false] (by kernel_rfl) rfl rfl ⟨hx306_0, hx307_0⟩ (fun hHeld => ?_); refine with_tabW portcullisref04_Order.tab11 portcullisref04_Order.bits11 (fun HT_ HW_ => ?_)
             generalize w23.drew = w24 at HO_3 HB GG18 HQ25 HQ26 hf18_0 hf19_0 hx18_0 hx19_0 hx302_0 hx304_0 hx306_0 hx307_0 hHeld ⊢
             refine pure_ (i := 0) (N := some 36) (v := ?_) (a' := ?_) #[true, false, false, false, false, false, false, false, false, false, false, false, false, false, false, false, false, false] rfl rfl (any_of HT_.out (by kernel_rfl)) (fun _ _ _ h => h) (Or.inl ⟨by rfl, ?_⟩) ?_ ?_
             rotate_left
             ·intro w'
              go_simp
              first | with_reducible rfl | (rw [if_neg (by (try simp only [ByteArray.size_extract] at *); omega)])
             rotate_left
             ·simp only [Act.put, List.setIfInBounds_toArray, List.set_cons_zero, List.set_cons_succ, i64_w, i32_w]
              rfl
             refine pure_ (i := 1) (N := some 37) (v := ?_) (a' := ?_) #[true, true, false, false, false, false, false, false, false, false, false, false, false, false, false, false, false, false] rfl rfl (any_of HT_.out (by kernel_rfl)) (fun _ _ _ h => h) (Or.inl ⟨by rfl, ?_⟩) ?_ ?_
             rotate_left
             ·intro w'
              go_simp
              first | with_reducible rfl | (rw [if_neg (by (try simp only [ByteArray.size_extract] at *); omega)])
             rotate_left
             ·simp only [Act.put, List.setIfInBounds_toArray, List.set_cons_zero, List.set_cons_succ, i64_w, i32_w]
              rfl
             refine pure_ (i := 2) (N := some 38) (v := ?_) (a' := ?_) #[true, true, true, false, false, false, false, false, false, false, false, false, false, false, false, false, false, false] rfl rfl (any_of HT_.out (by kernel_rfl)) (fun _ _ _ h => h) (Or.inl ⟨by rfl, ?_⟩) ?_ ?_
             rotate_left
             ·intro w'
              go_simp
              first | with_reducible rfl | (rw [if_neg (by (try simp only [ByteArray.size_extract] at *); omega)])
             rotate_left
             ·simp only [Act.put, List.setIfInBounds_toArray, List.set_cons_zero, List.set_cons_succ, i64_w, i32_w]
              rfl
             refine pure_ (i := 3) (N := some 39) (v := ?_) (a' := ?_) #[true, true, true, true, false, false, false, false, false, false, false, false, false, false, false, false, false, false] rfl rfl (any_of HT_.out (by kernel_rfl)) (fun _ _ _ h => h) (Or.inl ⟨by rfl, ?_⟩) ?_ ?_
             rotate_left
             ·intro w'
              go_simp
              first | with_reducible rfl | (rw [if_neg (by (try simp only [ByteArray.size_extract] at *); omega)])
             rotate_left
             ·simp only [Act.put, List.setIfInBounds_toArray, List.set_cons_zero, List.set_cons_succ, i64_w, i32_w]
              rfl
             refine pure_ (i := 4) (N := some 40) (v := ?_) (a' := ?_) #[true, true, true, true, true, false, false, false, false, false, false, false, false, false, false, false, false, false] rfl rfl (any_of HT_.out (by kernel_rfl)) (fun _ _ _ h => h) (Or.inl ⟨by rfl, ?_⟩) ?_ ?_
             rotate_left
             ·intro w'
              go_simp
              first | with_reducible rfl | (rw [if_neg (by (try simp only [ByteArray.size_extract] at *); omega)])
             rotate_left
             ·simp only [Act.put, List.setIfInBounds_toArray, List.set_cons_zero, List.set_cons_succ, i64_w, i32_w]
              rfl
             refine pure_ (i := 5) (N := some 41) (v := ?_) (a' := ?_) #[true, true, true, true, true, true, false, false, false, false, false, false, false, false, false, false, false, false] rfl rfl (any_of HT_.out (by kernel_rfl)) (fun _ _ _ h => h) (Or.inl ⟨by rfl, ?_⟩) ?_ ?_
             rotate_left
             ·intro w'
              go_simp
              first | with_reducible rfl | (rw [if_neg (by (try simp only [ByteArray.size_extract] at *); omega)])
             rotate_left
             ·simp only [Act.put, List.setIfInBounds_toArray, List.set_cons_zero, List.set_cons_succ, i64_w, i32_w]
              rfl
             refine pure_ (i := 6) (N := some 42) (v := ?_) (a' := ?_) #[true, true, true, true, true, true, true, false, false, false, false, false, false, false, false, false, false, false] rfl rfl (any_of HT_.out (by kernel_rfl)) (fun _ _ _ h => h) (Or.inl ⟨by rfl, ?_⟩) ?_ ?_
             rotate_left
             ·intro w'
              go_simp
              first | with_reducible rfl | (rw [if_neg (by (try simp only [ByteArray.size_extract] at *); omega)])
             rotate_left
             ·simp only [Act.put, List.setIfInBounds_toArray, List.set_cons_zero, List.set_cons_succ, i64_w, i32_w]
              rfl
             refine pure_ (i := 7) (N := some 43) (v := ?_) (a' := ?_) #[true, true, true, true, true, true, true, true, false, false, false, false, false, false, false, false, false, false] rfl rfl (any_of HT_.out (by kernel_rfl)) (fun _ _ _ h => h) (Or.inl ⟨by rfl, ?_⟩) ?_ ?_
             rotate_left
             ·intro w'
              go_simp
              first | with_reducible rfl | (rw [if_neg (by (try simp only [ByteArray.size_extract] at *); omega)])
             rotate_left
             ·simp only [Act.put, List.setIfInBounds_toArray, List.set_cons_zero, List.set_cons_succ, i64_w, i32_w]
              rfl
             refine pure_ (i := 9) (N := some 45) (v := ?_) (a' := ?_) #[true, true, true, true, true, true, true, true, false, true, false, false, false, false, false, false, false, false] rfl rfl (any_of HT_.out (by kernel_rfl)) (fun _ _ _ h => h) (Or.inl ⟨by rfl, ?_⟩) ?_ ?_
             rotate_left
             ·intro w'
              go_simp
              first | with_reducible rfl | (rw [if_neg (by (try simp only [ByteArray.size_extract] at *); omega)])
             rotate_left
             ·simp only [Act.put, List.setIfInBounds_toArray, List.set_cons_zero, List.set_cons_succ, i64_w, i32_w]
              rfl
             refine pure_ (i := 10) (N := some 46) (v := ?_) (a' := ?_) #[true, true, true, true, true, true, true, true, false, true, true, false, false, false, false, false, false, false] rfl rfl (any_of HT_.out (by kernel_rfl)) (fun _ _ _ h => h) (Or.inl ⟨by rfl, ?_⟩) ?_ ?_
             rotate_left
             ·intro w'
              go_simp
              first | with_reducible rfl | (rw [if_neg (by (try simp only [ByteArray.size_extract] at *); omega)])
             rotate_left
             ·simp only [Act.put, List.setIfInBounds_toArray, List.set_cons_zero, List.set_cons_succ, i64_w, i32_w]
              rfl
             refine pure_ (i := 11) (N := some 47) (v := ?_) (a' := ?_) #[true, true, true, true, true, true, true, true, false, true, true, true, false, false, false, false, false, false] rfl rfl (any_of HT_.out (by kernel_rfl)) (fun _ _ _ h => h) (Or.inl ⟨by rfl, ?_⟩) ?_ ?_
             rotate_left
             ·intro w'
              go_simp
              first | with_reducible rfl | (rw [if_neg (by (try simp only [ByteArray.size_extract] at *); omega)])
             rotate_left
             ·simp only [Act.put, List.setIfInBounds_toArray, List.set_cons_zero, List.set_cons_succ, i64_w, i32_w]
              rfl
             refine pure_ (i := 12) (N := some 48) (v := ?_) (a' := ?_) #[true, true, true, true, true, true, true, true, false, true, true, true, true, false, false, false, false, false] rfl rfl (any_of HT_.out (by kernel_rfl)) (fun _ _ _ h => h) (Or.inl ⟨by rfl, ?_⟩) ?_ ?_
             rotate_left
             ·intro w'
              go_simp
              first | with_reducible rfl | (rw [if_neg (by (try simp only [ByteArray.size_extract] at *); omega)])
             rotate_left
             ·simp only [Act.put, List.setIfInBounds_toArray, List.set_cons_zero, List.set_cons_succ, i64_w, i32_w]
              rfl
             refine take_ (i := 8) (N := some 44) (v := ?_) (a' := ?_) #[true, true, true, true, true, true, true, true, true, true, true, true, true, false, false, false, false, false] rfl rfl (take_ofW HT_.out HW_.out (by kernel_rfl)) (fun _ _ _ h => h) (Or.inl ⟨by rfl, ?_⟩) hHeld ?_ ?_
             rotate_left
             ·rintro w' ⟨s0, s1⟩
              go_simp
              first | with_reducible rfl | (rw [if_neg (by (try simp only [ByteArray.size_extract] at *); omega)])
             rotate_left
             ·simp only [Act.put, List.setIfInBounds_toArray, List.set_cons_zero, List.set_cons_succ, i64_w, i32_w]
              rfl
             refine take_ (i := 13) (N := some 49) (v := ?_) (a' := ?_) #[true, true, true, true, true, true, true, true, true, true, true, true, true, true, false, false, false, false] rfl rfl (take_ofW HT_.out HW_.out (by kernel_rfl)) (fun _ _ _ h => h) (Or.inl ⟨by rfl, ?_⟩) hHeld ?_ ?_
             rotate_left
             ·rintro w' ⟨s0, s1⟩
              go_simp
              first | with_reducible rfl | (rw [if_neg (by (try simp only [ByteArray.size_extract] at *); omega)])
             rotate_left
             ·simp only [Act.put, List.setIfInBounds_toArray, List.set_cons_zero, List.set_cons_succ, i64_w, i32_w]
              rfl
             refine pure_ (i := 14) (N := some 50) (v := ?_) (a' := ?_) #[true, true, true, true, true, true, true, true, true, true, true, true, true, true, true, false, false, false] rfl rfl (any_of HT_.out (by kernel_rfl)) (fun _ _ _ h => h) (Or.inl ⟨by rfl, ?_⟩) ?_ ?_
             rotate_left
             ·intro w'
              go_simp
              first | with_reducible rfl | (rw [if_neg (by (try simp only [ByteArray.size_extract] at *); omega)])
             rotate_left
             ·simp only [Act.put, List.setIfInBounds_toArray, List.set_cons_zero, List.set_cons_succ, i64_w, i32_w]
              rfl
             refine last_ (i := 15) (N := none) #[true, true, true, true, true, true, true, true, true, true, true, true, true, true, true, true, false, false] rfl rfl (one_of HT_.out (by kernel_rfl)) (by decide) (fun K hK => ?_)
             refine skip_ (w1 := ?_) (by rfl) rfl ?_ ?_
             rotate_left
             ·go_simp
              rfl
             refine hK.out _ _ ?_
             clear hK K
             refine pure_ (i := 16) (N := some 51) (v := ?_) (a' := ?_) #[true, true, true, true, true, true, true, true, true, true, true, true, true, true, true, true, true, false] rfl rfl (any_of HT_.out (by kernel_rfl)) (fun _ _ _ h => h) (Or.inl ⟨by rfl, ?_⟩) ?_ ?_
             rotate_left
             ·intro w'
              go_simp
              first | with_reducible rfl | (rw [if_neg (by (try simp only [ByteArray.size_extract] at *); omega)])
             rotate_left
             ·simp only [Act.put, List.setIfInBounds_toArray, List.set_cons_zero, List.set_cons_succ, i64_w, i32_w]
              rfl
             refine last_ (i := 17) (N := none) #[true, true, true, true, true, true, true, true, true, true, true, true, true, true, true, true, true, true] rfl rfl (one_of HT_.out (by kernel_rfl)) (by decide) (fun K hK => ?_)
             refine skip_ (w1 := ?_) (by rfl) rfl ?_ ?_
             rotate_left
             ·go_simp
              rfl
             refine hK.out _ _ ?_
             clear hK K
             refine done_ (done_of HT_.out (by kernel_rfl)) ?_
             try go_wp2
             go_roundg k2
             case measure => have := HK1.out; have := HK2.out; omega
             case rel => exact ⟨(y309), (true), (wrap64 (x5_2 + 1)), (by first | rfl | (simp; done) | (simp [*]; done)), (by first | rfl | (simp; done) | (simp [*]; done)), H', ⟨by have := HK1.out; have := HK2.out; omega⟩, ⟨by (with_reducible repeat (first | apply Kd.R_alloc | apply Kd.R_drewN | apply Kd.R_drew)); exact HQ26.out⟩, ⟨by repeat (first | (with_reducible first | exact HB.out | apply below_alloc | apply pw_below_drewN | apply below_drew1 | refine below_set ?_ GB18.out | refine below_set ?_ GB18.out) | exact HB.out)⟩⟩
            ·rw [if_neg c17] at H
             have c17b0 : decide (t305 < t303) = false := decide_eq_false c17
             clear c17
             have H' := Aside0.mk H
             clear H
             obtain ⟨Ao27, co27, eo27⟩ := Kd.R_slice HO_3.out
             subst eo27
             try go_wp2
             have n0_ := Aside0.mk (Kd.R_drew HO_3.out)
             have n1_ := Aside0.mk (below_drew1 HB.out)
             clear HO_3
             clear HB
             have HO_3 := n0_
             have HB := n1_
             clear n0_ n1_
             have p302 : 0 ≤ ((ji6) : Int) := of_decide_eq_true (by first | (with_reducible assumption) | assumption)
             have q302 : (ji6) < (x3_2.length : Int) := of_decide_eq_true (by first | (with_reducible assumption) | assumption)
             obtain ⟨ad302, e302, hx302_0⟩ := Kd.at_int (Kd.R_reads' HO_3.out).2.2 (ji6) p302 q302
             cases e302
             replace p302 := eq_true p302
             replace q302 := eq_true q302
             have p304 : 0 ≤ (x5_2 : Int) := of_decide_eq_true (by first | (with_reducible assumption) | assumption)
             have q304 : x5_2 < (x3_2.length : Int) := of_decide_eq_true (by first | (with_reducible assumption) | assumption)
             obtain ⟨ad304, e304, hx304_0⟩ := Kd.at_int (Kd.R_reads' HO_3.out).2.2 x5_2 p304 q304
             obtain rfl : ad302 = ad304 := (by injection e304)
             replace p304 := eq_true p304
             replace q304 := eq_true q304
             refine start_ (n := 13) (S := fun w' => w'.cell? (ad302.add ((ji6)).toNat) = some (.int .i32 (rd x3_2 (ji6))) ∧ w'.cell? (ad302.add (x5_2).toNat) = some (.int .i32 (rd x3_2 x5_2))) (ds := []) #[false, false, false, false, false, false, false, false, false, false, false, false, false] (by kernel_rfl) rfl rfl ⟨hx302_0, hx304_0⟩ (fun hHeld => ?_); refine with_tabW portcullisref04_Order.tab9 portcullisref04_Order.bits9 (fun HT_ HW_ => ?_)
             generalize wr.drew = w28 at HO_3 HB hx302_0 hx304_0 hHeld ⊢
             refine pure_ (i := 0) (N := some 18) (v := ?_) (a' := ?_) #[true, false, false, false, false, false, false, false, false, false, false, false, false] rfl rfl (any_of HT_.out (by kernel_rfl)) (fun _ _ _ h => h) (Or.inl ⟨by rfl, ?_⟩) ?_ ?_
             rotate_left
             ·intro w'
              go_simp
              first | with_reducible rfl | (rw [if_neg (by (try simp only [ByteArray.size_extract] at *); omega)])
             rotate_left
             ·simp only [Act.put, List.setIfInBounds_toArray, List.set_cons_zero, List.set_cons_succ, i64_w, i32_w]
              rfl
             refine pure_ (i := 1) (N := some 19) (v := ?_) (a' := ?_) #[true, true, false, false, false, false, false, false, false, false, false, false, false] rfl rfl (any_of HT_.out (by kernel_rfl)) (fun _ _ _ h => h) (Or.inl ⟨by rfl, ?_⟩) ?_ ?_
             rotate_left
             ·intro w'
              go_simp
              first | with_reducible rfl | (rw [if_neg (by (try simp only [ByteArray.size_extract] at *); omega)])
             rotate_left
             ·simp only [Act.put, List.setIfInBounds_toArray, List.set_cons_zero, List.set_cons_succ, i64_w, i32_w]
              rfl
             refine pure_ (i := 2) (N := some 20) (v := ?_) (a' := ?_) #[true, true, true, false, false, false, false, false, false, false, false, false, false] rfl rfl (any_of HT_.out (by kernel_rfl)) (fun _ _ _ h => h) (Or.inl ⟨by rfl, ?_⟩) ?_ ?_
             rotate_left
             ·intro w'
              go_simp
              first | with_reducible rfl | (rw [if_neg (by (try simp only [ByteArray.size_extract] at *); omega)])
             rotate_left
             ·simp only [Act.put, List.setIfInBounds_toArray, List.set_cons_zero, List.set_cons_succ, i64_w, i32_w]
              rfl
             refine pure_ (i := 3) (N := some 21) (v := ?_) (a' := ?_) #[true, true, true, true, false, false, false, false, false, false, false, false, false] rfl rfl (any_of HT_.out (by kernel_rfl)) (fun _ _ _ h => h) (Or.inl ⟨by rfl, ?_⟩) ?_ ?_
             rotate_left
             ·intro w'
              go_simp
              first | with_reducible rfl | (rw [if_neg (by (try simp only [ByteArray.size_extract] at *); omega)])
             rotate_left
             ·simp only [Act.put, List.setIfInBounds_toArray, List.set_cons_zero, List.set_cons_succ, i64_w, i32_w]
              rfl
             refine pure_ (i := 6) (N := some 24) (v := ?_) (a' := ?_) #[true, true, true, true, false, false, true, false, false, false, false, false, false] rfl rfl (any_of HT_.out (by kernel_rfl)) (fun _ _ _ h => h) (Or.inl ⟨by rfl, ?_⟩) ?_ ?_
             rotate_left
             ·intro w'
              go_simp
              first | with_reducible rfl | (rw [if_neg (by (try simp only [ByteArray.size_extract] at *); omega)])
             rotate_left
             ·simp only [Act.put, List.setIfInBounds_toArray, List.set_cons_zero, List.set_cons_succ, i64_w, i32_w]
              rfl
             refine pure_ (i := 7) (N := some 25) (v := ?_) (a' := ?_) #[true, true, true, true, false, false, true, true, false, false, false, false, false] rfl rfl (any_of HT_.out (by kernel_rfl)) (fun _ _ _ h => h) (Or.inl ⟨by rfl, ?_⟩) ?_ ?_
             rotate_left
             ·intro w'
              go_simp
              first | with_reducible rfl | (rw [if_neg (by (try simp only [ByteArray.size_extract] at *); omega)])
             rotate_left
             ·simp only [Act.put, List.setIfInBounds_toArray, List.set_cons_zero, List.set_cons_succ, i64_w, i32_w]
              rfl
             refine pure_ (i := 8) (N := some 26) (v := ?_) (a' := ?_) #[true, true, true, true, false, false, true, true, true, false, false, false, false] rfl rfl (any_of HT_.out (by kernel_rfl)) (fun _ _ _ h => h) (Or.inl ⟨by rfl, ?_⟩) ?_ ?_
             rotate_left
             ·intro w'
              go_simp
              first | with_reducible rfl | (rw [if_neg (by (try simp only [ByteArray.size_extract] at *); omega)])
             rotate_left
             ·simp only [Act.put, List.setIfInBounds_toArray, List.set_cons_zero, List.set_cons_succ, i64_w, i32_w]
              rfl
             refine take_ (i := 4) (N := some 22) (v := ?_) (a' := ?_) #[true, true, true, true, true, false, true, true, true, false, false, false, false] rfl rfl (take_ofW HT_.out HW_.out (by kernel_rfl)) (fun _ _ _ h => h) (Or.inl ⟨by rfl, ?_⟩) hHeld ?_ ?_
             rotate_left
             ·rintro w' ⟨s0, s1⟩
              go_simp
              first | with_reducible rfl | (rw [if_neg (by (try simp only [ByteArray.size_extract] at *); omega)])
             rotate_left
             ·simp only [Act.put, List.setIfInBounds_toArray, List.set_cons_zero, List.set_cons_succ, i64_w, i32_w]
              rfl
             refine take_ (i := 9) (N := some 27) (v := ?_) (a' := ?_) #[true, true, true, true, true, false, true, true, true, true, false, false, false] rfl rfl (take_ofW HT_.out HW_.out (by kernel_rfl)) (fun _ _ _ h => h) (Or.inl ⟨by rfl, ?_⟩) hHeld ?_ ?_
             rotate_left
             ·rintro w' ⟨s0, s1⟩
              go_simp
              first | with_reducible rfl | (rw [if_neg (by (try simp only [ByteArray.size_extract] at *); omega)])
             rotate_left
             ·simp only [Act.put, List.setIfInBounds_toArray, List.set_cons_zero, List.set_cons_succ, i64_w, i32_w]
              rfl
             refine one_ (i := 5) (N := some 23) #[true, true, true, true, true, true, true, true, true, true, false, false, false] rfl rfl (one_of HT_.out (by kernel_rfl)) (by decide) (fun K hK => ?_)
             refine goes_ Tryd.func46 (by kernel_rfl) rfl #[.int .i32 (rd x3_2 (ji6))] (by rfl) rfl rfl (by (try simp only [List.map_toArray, List.map_cons, List.map_nil]); first | done | (simp only [hji6]; rfl) | rfl | (simp only [List.length_drop, List.length_take]; rfl)) ?_
             with_reducible refine (portcullisref04_class.calls k2 (rd x3_2 (ji6)) t303 _ A9.out).mono ?_
             rintro e w29 ⟨rfl, hb⟩
             have HS0_ := (hb.cell (World.block_lt_of_cell? _ _ (hHeld.1))).trans (hHeld.1)
             have HS1_ := (hb.cell (World.block_lt_of_cell? _ _ (hHeld.2))).trans (hHeld.2)
             refine ⟨_, rfl, ?_⟩
             have n0_ := Aside0.mk (Kd.R_below (by (with_reducible repeat (first | apply Kd.R_alloc | apply Kd.R_drewN | apply Kd.R_drew)); exact HO_3.out) hb)
             have n1_ := Aside0.mk (below_step (by repeat (first | (with_reducible first | exact HB.out | apply below_alloc | apply pw_below_drewN | apply below_drew1) | exact HB.out)) hb)
             clear HO_3
             clear HB
             have HO_3 := n0_
             have HB := n1_
             clear n0_ n1_
             (try clear hb)
             (try clear hb2)
             (try clear hk)
             (try clear hi)
             refine hK.out _ _ ⟨HS0_, HS1_⟩ (fun hHeld => ?_)
             clear hK K
             refine norm_ (a' := ?_) ?_ ?_
             rotate_left
             ·show Act.put _ (some 23) _ = _
              simp only [Act.put, List.setIfInBounds_toArray, List.set_cons_zero, List.set_cons_succ, i64_w, i32_w]
              rfl
             refine one_ (i := 10) (N := some 28) #[true, true, true, true, true, true, true, true, true, true, true, false, false] rfl rfl (one_of HT_.out (by kernel_rfl)) (by decide) (fun K hK => ?_)
             refine goes_ Tryd.func46 (by kernel_rfl) rfl #[.int .i32 (rd x3_2 x5_2)] (by rfl) rfl rfl (by (try simp only [List.map_toArray, List.map_cons, List.map_nil]); first | done | rfl | (simp only [List.length_drop, List.length_take]; rfl)) ?_
             with_reducible refine (portcullisref04_class.calls k2 (rd x3_2 x5_2) t305 _ A11.out).mono ?_
             rintro e w30 ⟨rfl, hb⟩
             have HS0_ := (hb.cell (World.block_lt_of_cell? _ _ (hHeld.1))).trans (hHeld.1)
             have HS1_ := (hb.cell (World.block_lt_of_cell? _ _ (hHeld.2))).trans (hHeld.2)
             refine ⟨_, rfl, ?_⟩
             have n0_ := Aside0.mk (Kd.R_below (by (with_reducible repeat (first | apply Kd.R_alloc | apply Kd.R_drewN | apply Kd.R_drew)); exact HO_3.out) hb)
             have n1_ := Aside0.mk (below_step (by repeat (first | (with_reducible first | exact HB.out | apply below_alloc | apply pw_below_drewN | apply below_drew1) | exact HB.out)) hb)
             clear HO_3
             clear HB
             have HO_3 := n0_
             have HB := n1_
             clear n0_ n1_
             (try clear hb)
             (try clear hb2)
             (try clear hk)
             (try clear hi)
             refine hK.out _ _ ⟨HS0_, HS1_⟩ (fun hHeld => ?_)
             clear hK K
             refine norm_ (a' := ?_) ?_ ?_
             rotate_left
             ·show Act.put _ (some 28) _ = _
              simp only [Act.put, List.setIfInBounds_toArray, List.set_cons_zero, List.set_cons_succ, i64_w, i32_w]
              rfl
             refine pure_ (i := 11) (N := some 6) (v := ?_) (a' := ?_) #[true, true, true, true, true, true, true, true, true, true, true, true, false] rfl rfl (any_of HT_.out (by kernel_rfl)) (fun _ _ _ h => h) (Or.inl ⟨by rfl, ?_⟩) ?_ ?_
             rotate_left
             ·intro w'
              go_simp
              first | with_reducible rfl | (rw [if_neg (by (try simp only [ByteArray.size_extract] at *); omega)])
             rotate_left
             ·simp only [Act.put, List.setIfInBounds_toArray, List.set_cons_zero, List.set_cons_succ, i64_w, i32_w]
              rfl
             refine pure_ (i := 12) (N := some 7) (v := ?_) (a' := ?_) #[true, true, true, true, true, true, true, true, true, true, true, true, true] rfl rfl (any_of HT_.out (by kernel_rfl)) (fun _ _ _ h => h) (Or.inl ⟨by rfl, ?_⟩) ?_ ?_
             rotate_left
             ·intro w'
              go_simp
              first | with_reducible rfl | (rw [if_neg (by (try simp only [ByteArray.size_extract] at *); omega)])
             rotate_left
             ·simp only [Act.put, List.setIfInBounds_toArray, List.set_cons_zero, List.set_cons_succ, i64_w, i32_w]
              rfl
             refine done_ (done_of HT_.out (by kernel_rfl)) ?_
             try go_wp2
             go_roundg k2
             case measure => have := HK1.out; have := HK2.out; omega
             case rel => exact ⟨(x3_2), (x4_2), (wrap64 (x5_2 + 1)), (by first | rfl | (simp; done) | (simp [*]; done)), (by first | rfl | (simp; done) | (simp [*]; done)), H', ⟨by have := HK1.out; have := HK2.out; omega⟩, ⟨by (with_reducible repeat (first | apply Kd.R_alloc | apply Kd.R_drewN | apply Kd.R_drew)); exact HO_3.out⟩, ⟨by repeat (first | (with_reducible first | exact HB.out | apply below_alloc | apply pw_below_drewN | apply below_drew1) | exact HB.out)⟩⟩
          ·rw [if_neg c10] at H
           exact absurd H (by simp)
         ·rw [if_neg c8] at H
          exact absurd H (by simp)
        ·rw [if_neg c7] at H
         exact absurd H (by simp)
       ·rw [if_neg c5] at H
        have c5b0 : decide (x5_2 < (x3_2.length : Int)) = false := decide_eq_false c5
        clear c5
        have H' := Aside0.mk H
        clear H
        obtain ⟨Ao31, co31, eo31⟩ := Kd.R_slice HO_3.out
        subst eo31
        go_wp2
        go_roundg k2
        case measure => have := HK1.out; have := HK2.out; omega
        case rel => exact ⟨(x3_2), (x4_2), (by first | rfl | (simp; done) | (simp [*]; done)), H', ⟨by have := HK1.out; have := HK2.out; omega⟩, ⟨by (with_reducible repeat (first | apply Kd.R_alloc | apply Kd.R_drewN | apply Kd.R_drew)); exact HO_3.out⟩, ⟨by repeat (first | (with_reducible first | exact HB.out | apply below_alloc | apply pw_below_drewN | apply below_drew1) | exact HB.out)⟩⟩
    ·replace c4 := Bool.eq_false_iff.mpr c4
     subst c4
     have H1 : (some x3_1) = some r := by rw [if_neg (show ¬ (false = true) by decide)] at H; exact H
     clear H
     have H := H1
     clear H1
     obtain rfl := Option.some.inj H
     go_wp2
     go_ret
     exact ⟨_, by first | rfl | (simp [errW_none, errW_some] <;> rfl) | (simp [*, errW_none, errW_some] <;> rfl), by (with_reducible repeat (first | apply Kd.R_alloc | apply Kd.R_drewN | apply Kd.R_drew)); exact HO_3.out, by repeat (first | (with_reducible first | exact HB.out | apply below_alloc | apply pw_below_drewN | apply below_drew1) | exact HB.out)⟩
 ·rw [if_neg c2] at H
  exact absurd H (by simp)

end Go.Proofs.YtncbbgmhmofhnaaDoor.Pr
end

section
namespace Go.Proofs.YtncbbgmhmofhnaaDoor.Pr
open Go.RowKit Go.Proofs.YtncbbgmhmofhnaaDoorW.PrintWords Go.Proofs.YtncbbgmhmofhnaaDoorW.PrintLast Go.Proofs.YtncbbgmhmofhnaaDoorW.PrintMore
attribute [local go_sem] max2_int min2_int max_two min_two max_three min_three max_four min_four Instr.field asAgg   -- for this text's walks alone
set_option linter.unusedVariables false
set_option linter.unusedSimpArgs false

def portcullisref04_NFD.l0 : Nat → List Int → List Int → Int → Option (List Int)
 | 0, _, _, _ => none
 | k + 1, x0, x3, x4 => if x4 < (x0.length : Int) then (if 0 ≤ x4 then ((portcullisref04_apart.f k (rd x0 x4)).bind fun t311 => (if x3.length + t311.length < 35184372088832 then (portcullisref04_NFD.l0 k x0 (x3 ++ t311) (wrap64 (x4 + 1))) else (none))) else (none)) else ((portcullisref04_Order.f k x3).bind fun t317 => (some t317))
def portcullisref04_NFD.f (k : Nat) (l0 : List Int) : Option (List Int) := portcullisref04_NFD.l0 k l0 ([] : List Int) 0
set_option maxHeartbeats 8000000 in
set_option maxRecDepth 100000 in
theorem portcullisref04_NFD.calls (k : Nat) (A0 : Option Addr) (c0 : Nat) (l0 : List Int) (r : List Int) (w : World) (hr0 : Kd.C (Kd.int .i32) w A0 l0.length l0) (hc0 : l0.length ≤ c0) (h : portcullisref04_NFD.f k l0 = some r) :
  Calls Tryd.prog 28 #[.slice A0 l0.length c0] w fun e w' => ∃ v0_ : Value, e = .returned (v0_) ∧ Kd.R (Kd.int .i32) 21 w' w.heap.size (fun _ => True) v0_ r ∧ Below w.heap.size w w' := by
 have HR0 := Aside0.mk hr0
 have HC0 := Aside0.mk hc0
 clear hr0 hc0
 have HB := Aside0.mk (Below.refl w.heap.size w)
 have H : (portcullisref04_NFD.l0 k l0 ([] : List Int) 0) = some r := h
 clear h
 have H' := Aside0.mk H
 clear H
 go_enter Tryd.func28, Tryd.ntmps28
 go_wp2
 go_loopg [3, 4] k (fun kq v3 v4 w' => ∃ (x3_1 : List Int) (x4_1 : Int), v4 = .int .i64 x4_1 ∧ Aside0 (portcullisref04_NFD.l0 kq l0 x3_1 x4_1 = some r) ∧ Aside0 (kq ≤ k) ∧ Aside0 (Kd.R (Kd.int .i32) 21 w' w.heap.size (fun _ => True) v3 x3_1) ∧ Aside0 (Below w.heap.size w w'))
 case atStart => exact ⟨(([] : List Int)), (0), (by first | rfl | (simp; done) | (simp [*]; done)), H', ⟨Nat.le_refl _⟩, ⟨by first | exact Kd.R_nil _ _ _ _ _ | exact Kd.N_nil _ _ _ _ _ | exact Kd.V_nil _ _ _ _ _ | exact Kd.Q_nil _ _ _ _ _ | exact Kd.S_nil _ _ _ _ _⟩, ⟨by repeat (first | (with_reducible first | exact HB.out | apply below_alloc | apply pw_below_drewN | apply below_drew1) | exact HB.out)⟩⟩
 case round =>
  clear H'
  obtain ⟨x3_1, x4_1, rfl, HA, HK1, HO_3, HB⟩ := hrel
  cases gk with
  | zero => exact absurd HA.out (by simp [portcullisref04_NFD.l0])
  | succ k1 =>
   have H := HA.out
   clear HA
   simp only [portcullisref04_NFD.l0] at H
   by_cases c2 : x4_1 < (l0.length : Int)
   ·rw [if_pos c2] at H
    have c2b0 : decide (x4_1 < (l0.length : Int)) = true := decide_eq_true c2
    clear c2
    by_cases c3 : 0 ≤ x4_1
    ·rw [if_pos c3] at H
     have c3b0 : decide (0 ≤ x4_1) = true := decide_eq_true c3
     clear c3
     replace H := Option.bind_eq_some_iff.mp H
     obtain ⟨t311, A40, H⟩ := H
     replace H : (if x3_1.length + t311.length < 35184372088832 then (portcullisref04_NFD.l0 k1 l0 (x3_1 ++ t311) (wrap64 (x4_1 + 1))) else (none)) = some r := H
     have A4 := Aside0.mk A40
     clear A40
     by_cases c5 : x3_1.length + t311.length < 35184372088832
     ·rw [if_pos c5] at H
      have LMc5 := Aside0.mk c5
      clear c5
      obtain ⟨y314, hy314⟩ : ∃ y_ : List Int, y_ = (x3_1 ++ t311) := ⟨_, rfl⟩
      replace H : (portcullisref04_NFD.l0 k1 l0 y314 (wrap64 (x4_1 + 1))) = some r := by first | (rw [hy314]; with_reducible exact H) | (have H2_ := (Option.bind_some _ _).symm.trans H; rw [hy314]; with_reducible exact H2_) | (have H2_ := (Option.bind_some _ _).symm.trans H; with_reducible exact H2_) | with_reducible exact H | (rw [hy314]; exact H) | exact H
      have Ny314 := Aside0.mk hy314
      clear hy314
      have H' := Aside0.mk H
      clear H
      have p310 : 0 ≤ (x4_1 : Int) := of_decide_eq_true (by first | (with_reducible assumption) | assumption)
      have q310 : x4_1 < (l0.length : Int) := of_decide_eq_true (by first | (with_reducible assumption) | assumption)
      obtain ⟨ad310, e310, hx310_0⟩ := Kd.at_int HR0.out x4_1 p310 q310
      cases e310
      replace hx310_0 := (HB.out.cell (World.block_lt_of_cell? w _ hx310_0)).trans hx310_0
      replace p310 := eq_true p310
      replace q310 := eq_true q310
      go_wp2_with (first | ((with_reducible refine gate_callee (f := 48) rfl ?_); refine goesL_ (some 16) rfl rfl Tryd.func48 (by kernel_rfl) rfl #[.int .i32 (rd l0 x4_1)] rfl (by (try simp only [List.map_toArray, List.map_cons, List.map_nil]); first | done | rfl | (simp only [List.length_drop, List.length_take]; rfl)) ?_; (with_reducible refine (portcullisref04_apart.calls k1 (rd l0 x4_1) t311 _ A4.out).mono ?_); rintro e w6 ⟨v312, rfl, ho0, hb⟩; refine ⟨_, rfl, ?_⟩; have n0_ := Aside0.mk (Kd.R_elder' (by (with_reducible repeat (first | apply Kd.R_alloc | apply Kd.R_drewN | apply Kd.R_drew)); exact HO_3.out) (Kd.R_base ho0) hb); have n1_ := Aside0.mk (Kd.R_lower (Kd.R_new' ho0 (Kd.R_lt (by (with_reducible repeat (first | apply Kd.R_alloc | apply Kd.R_drewN | apply Kd.R_drew)); exact HO_3.out))) (below_size (by repeat (first | (with_reducible first | exact HB.out | apply below_alloc | apply pw_below_drewN | apply below_drew1) | exact HB.out)))); have n2_ := Aside0.mk (below_step (by repeat (first | (with_reducible first | exact HB.out | apply below_alloc | apply pw_below_drewN | apply below_drew1) | exact HB.out)) hb); clear HO_3; clear HB; have HO_3 := n0_; have HO313 := n1_; have HB := n2_; clear n0_ n1_ n2_; (try clear hb); (try clear hb2); (try clear hk); (try clear hi); (try clear ho0); obtain ⟨Ao8, co8, eo8⟩ := Kd.R_slice HO313.out; subst eo8) | ((with_reducible refine gate_builtin (b := .append) (xs := #[.tmp 17, .tmp 18]) rfl ?_); at_builtin; refine Kd.R_append_rows (Kd.int .i32) (w0 := w) w.heap.size rfl (.tmp 17) (.tmp 18) 38 21 (.int .i32 0) 4 rfl Tryd.underlying38 info21 rfl (by decide) (by omega) u3 x3_1 t311 _ _ _ (fun k_ => some k_ ≠ (.slice Ao8 t311.length co8 : Value).ownBlock) (fun _ => False) rfl rfl ?aO ?aR (fun _ _ h => h) (fun _ h => h.elim) ?aF ?aB ?aS ?aL ?_; (case aR => repeat (first | exact (Kd.R_reads' HO313.out).2.2 | (with_reducible refine Kd.C_alloc ?_ _) | (with_reducible refine Kd.C_drewN ?_ _) | (with_reducible refine Kd.C_drew ?_))); (case aB => exact (by repeat (first | (with_reducible first | exact HB.out | apply below_alloc | apply pw_below_drewN | apply below_drew1) | exact HB.out))); (case aF => exact (fun k_ hk => Kd.fresh' (Kd.R_lt (by (with_reducible repeat (first | apply Kd.R_alloc | apply Kd.R_drewN | apply Kd.R_drew)); exact HO313.out)) k_ hk)); (case aO => exact (by (with_reducible repeat (first | apply Kd.R_alloc | apply Kd.R_drewN | apply Kd.R_drew)); exact Kd.R_mono HO_3.out (fun _ hk => hk.2))); (case aS => exact (below_size (by repeat (first | (with_reducible first | exact HB.out | apply below_alloc | apply pw_below_drewN | apply below_drew1) | exact HB.out)))); (case aL => have := LMc5.out; omega); intro v315 w7 ho hb hg hat; rw [← Ny314.out] at ho; have n0_ := Aside0.mk (Kd.R_after (ok := (fun _ => True)) (by (with_reducible repeat (first | apply Kd.R_alloc | apply Kd.R_drewN | apply Kd.R_drew)); exact HO313.out) hg hat); have n1_ := Aside0.mk (hb); have n2_ := Aside0.mk (ho); clear HO313; clear HB; clear HO_3; have HO313 := n0_; have HB := n1_; have HO316 := n2_; clear n0_ n1_ n2_; clear ho hb hg hat))
      go_roundg k1
      case measure => have := HK1.out; omega
      case rel => exact ⟨(y314), (wrap64 (x4_1 + 1)), (by first | rfl | (simp; done) | (simp [*]; done)), H', ⟨by have := HK1.out; omega⟩, ⟨by (with_reducible repeat (first | apply Kd.R_alloc | apply Kd.R_drewN | apply Kd.R_drew)); exact Kd.R_mono HO316.out (fun _ hk => trivial)⟩, ⟨by repeat (first | (with_reducible first | exact HB.out | apply below_alloc | apply pw_below_drewN | apply below_drew1) | exact HB.out)⟩⟩
     ·rw [if_neg c5] at H
      exact absurd H (by simp)
    ·rw [if_neg c3] at H
     exact absurd H (by simp)
   ·rw [if_neg c2] at H
    have c2b0 : decide (x4_1 < (l0.length : Int)) = false := decide_eq_false c2
    clear c2
    replace H := Option.bind_eq_some_iff.mp H
    obtain ⟨t317, A90, H⟩ := H
    replace H : (some t317) = some r := H
    have A9 := Aside0.mk A90
    clear A90
    obtain rfl := Option.some.inj H
    obtain ⟨Ao10, co10, eo10⟩ := Kd.R_slice HO_3.out
    subst eo10
    go_wp2_with (first | ((with_reducible refine gate_callee (f := 49) rfl ?_); refine goesL_ (some 21) rfl rfl Tryd.func49 (by kernel_rfl) rfl #[.slice Ao10 x3_1.length co10] rfl (by (try simp only [List.map_toArray, List.map_cons, List.map_nil]); first | done | rfl | (simp only [List.length_drop, List.length_take]; rfl)) ?_; (with_reducible refine (portcullisref04_Order.calls k1 _ _ x3_1 t317 _ ?side1 ?side2 A9.out).mono ?_); (case side1 => repeat (first | exact (Kd.R_reads' HO_3.out).2.2 | (with_reducible refine Kd.C_alloc ?_ _) | (with_reducible refine Kd.C_drewN ?_ _) | (with_reducible refine Kd.C_drew ?_))); (case side2 => exact (Kd.R_reads' HO_3.out).2.1); rintro e w11 ⟨v318, rfl, ho0, hb⟩; refine ⟨_, rfl, ?_⟩; have n0_ := Aside0.mk (Kd.R_elder' (by (with_reducible repeat (first | apply Kd.R_alloc | apply Kd.R_drewN | apply Kd.R_drew)); exact HO_3.out) (Kd.R_base ho0) hb); have n1_ := Aside0.mk (Kd.R_lower (Kd.R_new' ho0 (Kd.R_lt (by (with_reducible repeat (first | apply Kd.R_alloc | apply Kd.R_drewN | apply Kd.R_drew)); exact HO_3.out))) (below_size (by repeat (first | (with_reducible first | exact HB.out | apply below_alloc | apply pw_below_drewN | apply below_drew1) | exact HB.out)))); have n2_ := Aside0.mk (below_step (by repeat (first | (with_reducible first | exact HB.out | apply below_alloc | apply pw_below_drewN | apply below_drew1) | exact HB.out)) hb); clear HO_3; clear HB; have HO_3 := n0_; have HO319 := n1_; have HB := n2_; clear n0_ n1_ n2_; (try clear hb); (try clear hb2); (try clear hk); (try clear hi); (try clear ho0)))
    go_ret
    exact ⟨_, by first | rfl | (simp [errW_none, errW_some] <;> rfl) | (simp [*, errW_none, errW_some] <;> rfl), by (with_reducible repeat (first | apply Kd.R_alloc | apply Kd.R_drewN | apply Kd.R_drew)); exact Kd.R_mono HO319.out (fun _ hk => trivial), by repeat (first | (with_reducible first | exact HB.out | apply below_alloc | apply pw_below_drewN | apply below_drew1) | exact HB.out)⟩

end Go.Proofs.YtncbbgmhmofhnaaDoor.Pr
end

section
namespace Go.Proofs.YtncbbgmhmofhnaaDoor.Pr
open Go.RowKit Go.Proofs.YtncbbgmhmofhnaaDoorW.PrintWords Go.Proofs.YtncbbgmhmofhnaaDoorW.PrintLast Go.Proofs.YtncbbgmhmofhnaaDoorW.PrintMore
attribute [local go_sem] max2_int min2_int max_two min_two max_three min_three max_four min_four Instr.field asAgg   -- for this text's walks alone
set_option linter.unusedVariables false
set_option linter.unusedSimpArgs false

end Go.Proofs.YtncbbgmhmofhnaaDoor.Pr
end

section
namespace Go.Proofs.YtncbbgmhmofhnaaDoor.Pr
open Go.RowKit Go.Proofs.YtncbbgmhmofhnaaDoorW.PrintWords Go.Proofs.YtncbbgmhmofhnaaDoorW.PrintLast Go.Proofs.YtncbbgmhmofhnaaDoorW.PrintMore
attribute [local go_sem] max2_int min2_int max_two min_two max_three min_three max_four min_four Instr.field asAgg   -- for this text's walks alone
set_option linter.unusedVariables false
set_option linter.unusedSimpArgs false

def portcullisref08_Skeleton.l0 : Nat → List Int → List Int → Int → Option (ByteArray)
 | 0, _, _, _ => none
 | k + 1, x3, x4, x5 => if x5 < (x3.length : Int) then (if 0 ≤ x5 then (if (rd x3 x5) = 173 then (portcullisref08_Skeleton.l0 k x3 x4 (wrap64 (x5 + 1))) else (if (rd x3 x5) = 8204 then (portcullisref08_Skeleton.l0 k x3 x4 (wrap64 (x5 + 1))) else (if (rd x3 x5) = 8205 then (portcullisref08_Skeleton.l0 k x3 x4 (wrap64 (x5 + 1))) else ((portcullisref03_Like.f (rd x3 x5)).bind fun t467 => (if x4.length + t467.length < 35184372088832 then (portcullisref08_Skeleton.l0 k x3 (x4 ++ t467) (wrap64 (x5 + 1))) else (none)))))) else (none)) else ((portcullisref04_NFD.f k x4).bind fun t473 => ((portcullisref01_Encode.f k t473).bind fun bt476 => (some bt476.1)))
def portcullisref08_Skeleton.f (k : Nat) (a0 : ByteArray) : Option (ByteArray) := (portcullisref01_Decode.f k a0).bind fun t457 => ((portcullisref04_NFD.f k t457).bind fun t460 => (portcullisref08_Skeleton.l0 k t460 ([] : List Int) 0))
set_option maxHeartbeats 8000000 in
set_option maxRecDepth 100000 in
theorem portcullisref08_Skeleton.calls (k : Nat) (a0 : ByteArray) (r : ByteArray) (w : World) (h : portcullisref08_Skeleton.f k a0 = some r) :
  Calls Tryd.prog 12 #[.string a0] w fun e w' => e = .returned (.string r) ∧ Below w.heap.size w w' := by
 have HB := Aside0.mk (Below.refl w.heap.size w)
 have H : ((portcullisref01_Decode.f k a0).bind fun t457 => ((portcullisref04_NFD.f k t457).bind fun t460 => (portcullisref08_Skeleton.l0 k t460 ([] : List Int) 0))) = some r := h
 clear h
 replace H := Option.bind_eq_some_iff.mp H
 obtain ⟨t457, A20, H⟩ := H
 replace H : ((portcullisref04_NFD.f k t457).bind fun t460 => (portcullisref08_Skeleton.l0 k t460 ([] : List Int) 0)) = some r := H
 have A2 := Aside0.mk A20
 clear A20
 replace H := Option.bind_eq_some_iff.mp H
 obtain ⟨t460, A30, H⟩ := H
 replace H : (portcullisref08_Skeleton.l0 k t460 ([] : List Int) 0) = some r := H
 have A3 := Aside0.mk A30
 clear A30
 have H' := Aside0.mk H
 clear H
 go_enter Tryd.func12, Tryd.ntmps12
 go_wp2_with (first | ((with_reducible refine gate_callee (f := 27) rfl ?_); refine goesL_ (some 10) rfl rfl Tryd.func27 (by kernel_rfl) rfl #[.string a0] rfl (by (try simp only [List.map_toArray, List.map_cons, List.map_nil]); first | done | rfl | (simp only [List.length_drop, List.length_take]; rfl)) ?_; (with_reducible refine (portcullisref01_Decode.calls k a0 t457 _ A2.out).mono ?_); rintro e w4 ⟨v458, rfl, ho0, hb⟩; refine ⟨_, rfl, ?_⟩; have n0_ := Aside0.mk (Kd.R_lower ho0 (below_size (by repeat (first | (with_reducible first | exact HB.out | apply below_alloc | apply pw_below_drewN | apply below_drew1) | exact HB.out)))); have n1_ := Aside0.mk (below_step (by repeat (first | (with_reducible first | exact HB.out | apply below_alloc | apply pw_below_drewN | apply below_drew1) | exact HB.out)) hb); clear HB; have HO459 := n0_; have HB := n1_; clear n0_ n1_; (try clear hb); (try clear hb2); (try clear hk); (try clear hi); (try clear ho0); obtain ⟨Ao5, co5, eo5⟩ := Kd.R_slice HO459.out; subst eo5) | ((with_reducible refine gate_callee (f := 28) rfl ?_); refine goesL_ (some 11) rfl rfl Tryd.func28 (by kernel_rfl) rfl #[.slice Ao5 t457.length co5] rfl (by (try simp only [List.map_toArray, List.map_cons, List.map_nil]); first | done | rfl | (simp only [List.length_drop, List.length_take]; rfl)) ?_; (with_reducible refine (portcullisref04_NFD.calls k _ _ t457 t460 _ ?side1 ?side2 A3.out).mono ?_); (case side1 => repeat (first | exact (Kd.R_reads' HO459.out).2.2 | (with_reducible refine Kd.C_alloc ?_ _) | (with_reducible refine Kd.C_drewN ?_ _) | (with_reducible refine Kd.C_drew ?_))); (case side2 => exact (Kd.R_reads' HO459.out).2.1); rintro e w6 ⟨v461, rfl, ho0, hb⟩; refine ⟨_, rfl, ?_⟩; have n0_ := Aside0.mk (Kd.R_elder' (by (with_reducible repeat (first | apply Kd.R_alloc | apply Kd.R_drewN | apply Kd.R_drew)); exact HO459.out) (Kd.R_base ho0) hb); have n1_ := Aside0.mk (Kd.R_lower (Kd.R_new' ho0 (Kd.R_lt (by (with_reducible repeat (first | apply Kd.R_alloc | apply Kd.R_drewN | apply Kd.R_drew)); exact HO459.out))) (below_size (by repeat (first | (with_reducible first | exact HB.out | apply below_alloc | apply pw_below_drewN | apply below_drew1) | exact HB.out)))); have n2_ := Aside0.mk (below_step (by repeat (first | (with_reducible first | exact HB.out | apply below_alloc | apply pw_below_drewN | apply below_drew1) | exact HB.out)) hb); clear HO459; clear HB; have HO459 := n0_; have HO462 := n1_; have HB := n2_; clear n0_ n1_ n2_; (try clear hb); (try clear hb2); (try clear hk); (try clear hi); (try clear ho0)))
 go_loopg [4, 5] k (fun kq v4 v5 w' => ∃ (x4_1 : List Int) (x5_1 : Int), v5 = .int .i64 x5_1 ∧ Aside0 (portcullisref08_Skeleton.l0 kq t460 x4_1 x5_1 = some r) ∧ Aside0 (kq ≤ k) ∧ Aside0 (Kd.R (Kd.int .i32) 21 w' w.heap.size (fun k_ => some k_ ≠ (v4 : Value).ownBlock) v461 t460) ∧ Aside0 (Kd.R (Kd.int .i32) 21 w' w.heap.size (fun k_ => some k_ ≠ (v461 : Value).ownBlock) v4 x4_1) ∧ Aside0 (Below w.heap.size w w'))
 case atStart => exact ⟨(([] : List Int)), (0), (by first | rfl | (simp; done) | (simp [*]; done)), H', ⟨Nat.le_refl _⟩, ⟨by (with_reducible repeat (first | apply Kd.R_alloc | apply Kd.R_drewN | apply Kd.R_drew)); exact Kd.R_mono HO462.out (fun _ hk => (by simp [Value.ownBlock]))⟩, ⟨by first | exact Kd.R_nil _ _ _ _ _ | exact Kd.N_nil _ _ _ _ _ | exact Kd.V_nil _ _ _ _ _ | exact Kd.Q_nil _ _ _ _ _ | exact Kd.S_nil _ _ _ _ _⟩, ⟨by repeat (first | (with_reducible first | exact HB.out | apply below_alloc | apply pw_below_drewN | apply below_drew1) | exact HB.out)⟩⟩
 case round =>
  clear H'
  try clear c1
  try clear c2
  try clear p2
  obtain ⟨x4_1, x5_1, rfl, HA, HK1, HO_3, HO_4, HB⟩ := hrel
  cases gk with
  | zero => exact absurd HA.out (by simp [portcullisref08_Skeleton.l0])
  | succ k1 =>
   have H := HA.out
   clear HA
   simp only [portcullisref08_Skeleton.l0] at H
   by_cases c7 : x5_1 < (t460.length : Int)
   ·rw [if_pos c7] at H
    have c7b0 : decide (x5_1 < (t460.length : Int)) = true := decide_eq_true c7
    clear c7
    by_cases c8 : 0 ≤ x5_1
    ·rw [if_pos c8] at H
     have c8b0 : decide (0 ≤ x5_1) = true := decide_eq_true c8
     clear c8
     by_cases c9 : (rd t460 x5_1) = 173
     ·rw [if_pos c9] at H
      have c9b0 : ((rd t460 x5_1) == 173) = true := beq_iff_eq.mpr c9
      have c9b1 : ((rd t460 x5_1) != 173) = false := bne_eq_false_iff_eq.mpr c9
      clear c9
      have H' := Aside0.mk H
      clear H
      obtain ⟨Ao10, co10, eo10⟩ := Kd.R_slice HO_3.out
      subst eo10
      have p463 : 0 ≤ (x5_1 : Int) := of_decide_eq_true (by first | (with_reducible assumption) | assumption)
      have q463 : x5_1 < (t460.length : Int) := of_decide_eq_true (by first | (with_reducible assumption) | assumption)
      obtain ⟨ad463, e463, hx463_0⟩ := Kd.at_int (Kd.R_reads' HO_3.out).2.2 x5_1 p463 q463
      cases e463
      replace p463 := eq_true p463
      replace q463 := eq_true q463
      go_wp2
      go_roundg k1
      case measure => have := HK1.out; omega
      case rel => exact ⟨(x4_1), (wrap64 (x5_1 + 1)), (by first | rfl | (simp; done) | (simp [*]; done)), H', ⟨by have := HK1.out; omega⟩, ⟨by (with_reducible repeat (first | apply Kd.R_alloc | apply Kd.R_drewN | apply Kd.R_drew)); exact HO_3.out⟩, ⟨by (with_reducible repeat (first | apply Kd.R_alloc | apply Kd.R_drewN | apply Kd.R_drew)); exact HO_4.out⟩, ⟨by repeat (first | (with_reducible first | exact HB.out | apply below_alloc | apply pw_below_drewN | apply below_drew1) | exact HB.out)⟩⟩
     ·rw [if_neg c9] at H
      have c9b0 : ((rd t460 x5_1) == 173) = false := beq_eq_false_iff_ne.mpr c9
      have c9b1 : ((rd t460 x5_1) != 173) = true := bne_iff_ne.mpr c9
      by_cases c11 : (rd t460 x5_1) = 8204
      ·rw [if_pos c11] at H
       have c11b0 : ((rd t460 x5_1) == 8204) = true := beq_iff_eq.mpr c11
       have c11b1 : ((rd t460 x5_1) != 8204) = false := bne_eq_false_iff_eq.mpr c11
       clear c11
       have H' := Aside0.mk H
       clear H
       obtain ⟨Ao12, co12, eo12⟩ := Kd.R_slice HO_3.out
       subst eo12
       have p463 : 0 ≤ (x5_1 : Int) := of_decide_eq_true (by first | (with_reducible assumption) | assumption)
       have q463 : x5_1 < (t460.length : Int) := of_decide_eq_true (by first | (with_reducible assumption) | assumption)
       obtain ⟨ad463, e463, hx463_0⟩ := Kd.at_int (Kd.R_reads' HO_3.out).2.2 x5_1 p463 q463
       cases e463
       replace p463 := eq_true p463
       replace q463 := eq_true q463
       have p464 : 0 ≤ (x5_1 : Int) := of_decide_eq_true (by first | (with_reducible assumption) | assumption)
       have q464 : x5_1 < (t460.length : Int) := of_decide_eq_true (by first | (with_reducible assumption) | assumption)
       obtain ⟨ad464, e464, hx464_0⟩ := Kd.at_int (Kd.R_reads' HO_3.out).2.2 x5_1 p464 q464
       obtain rfl : ad463 = ad464 := (by injection e464)
       replace p464 := eq_true p464
       replace q464 := eq_true q464
       go_wp2
       go_roundg k1
       case measure => have := HK1.out; omega
       case rel => exact ⟨(x4_1), (wrap64 (x5_1 + 1)), (by first | rfl | (simp; done) | (simp [*]; done)), H', ⟨by have := HK1.out; omega⟩, ⟨by (with_reducible repeat (first | apply Kd.R_alloc | apply Kd.R_drewN | apply Kd.R_drew)); exact HO_3.out⟩, ⟨by (with_reducible repeat (first | apply Kd.R_alloc | apply Kd.R_drewN | apply Kd.R_drew)); exact HO_4.out⟩, ⟨by repeat (first | (with_reducible first | exact HB.out | apply below_alloc | apply pw_below_drewN | apply below_drew1) | exact HB.out)⟩⟩
      ·rw [if_neg c11] at H
       have c11b0 : ((rd t460 x5_1) == 8204) = false := beq_eq_false_iff_ne.mpr c11
       have c11b1 : ((rd t460 x5_1) != 8204) = true := bne_iff_ne.mpr c11
       by_cases c13 : (rd t460 x5_1) = 8205
       ·rw [if_pos c13] at H
        have c13b0 : ((rd t460 x5_1) == 8205) = true := beq_iff_eq.mpr c13
        have c13b1 : ((rd t460 x5_1) != 8205) = false := bne_eq_false_iff_eq.mpr c13
        clear c13
        have H' := Aside0.mk H
        clear H
        obtain ⟨Ao14, co14, eo14⟩ := Kd.R_slice HO_3.out
        subst eo14
        have p463 : 0 ≤ (x5_1 : Int) := of_decide_eq_true (by first | (with_reducible assumption) | assumption)
        have q463 : x5_1 < (t460.length : Int) := of_decide_eq_true (by first | (with_reducible assumption) | assumption)
        obtain ⟨ad463, e463, hx463_0⟩ := Kd.at_int (Kd.R_reads' HO_3.out).2.2 x5_1 p463 q463
        cases e463
        replace p463 := eq_true p463
        replace q463 := eq_true q463
        have p464 : 0 ≤ (x5_1 : Int) := of_decide_eq_true (by first | (with_reducible assumption) | assumption)
        have q464 : x5_1 < (t460.length : Int) := of_decide_eq_true (by first | (with_reducible assumption) | assumption)
        obtain ⟨ad464, e464, hx464_0⟩ := Kd.at_int (Kd.R_reads' HO_3.out).2.2 x5_1 p464 q464
        obtain rfl : ad463 = ad464 := (by injection e464)
        replace p464 := eq_true p464
        replace q464 := eq_true q464
        have p465 : 0 ≤ (x5_1 : Int) := of_decide_eq_true (by first | (with_reducible assumption) | assumption)
        have q465 : x5_1 < (t460.length : Int) := of_decide_eq_true (by first | (with_reducible assumption) | assumption)
        obtain ⟨ad465, e465, hx465_0⟩ := Kd.at_int (Kd.R_reads' HO_3.out).2.2 x5_1 p465 q465
        obtain rfl : ad463 = ad465 := (by injection e465)
        replace p465 := eq_true p465
        replace q465 := eq_true q465
        go_wp2
        go_roundg k1
        case measure => have := HK1.out; omega
        case rel => exact ⟨(x4_1), (wrap64 (x5_1 + 1)), (by first | rfl | (simp; done) | (simp [*]; done)), H', ⟨by have := HK1.out; omega⟩, ⟨by (with_reducible repeat (first | apply Kd.R_alloc | apply Kd.R_drewN | apply Kd.R_drew)); exact HO_3.out⟩, ⟨by (with_reducible repeat (first | apply Kd.R_alloc | apply Kd.R_drewN | apply Kd.R_drew)); exact HO_4.out⟩, ⟨by repeat (first | (with_reducible first | exact HB.out | apply below_alloc | apply pw_below_drewN | apply below_drew1) | exact HB.out)⟩⟩
       ·rw [if_neg c13] at H
        have c13b0 : ((rd t460 x5_1) == 8205) = false := beq_eq_false_iff_ne.mpr c13
        have c13b1 : ((rd t460 x5_1) != 8205) = true := bne_iff_ne.mpr c13
        replace H := Option.bind_eq_some_iff.mp H
        obtain ⟨t467, A150, H⟩ := H
        replace H : (if x4_1.length + t467.length < 35184372088832 then (portcullisref08_Skeleton.l0 k1 t460 (x4_1 ++ t467) (wrap64 (x5_1 + 1))) else (none)) = some r := H
        have A15 := Aside0.mk A150
        clear A150
        by_cases c16 : x4_1.length + t467.length < 35184372088832
        ·rw [if_pos c16] at H
         have LMc16 := Aside0.mk c16
         clear c16
         obtain ⟨y470, hy470⟩ : ∃ y_ : List Int, y_ = (x4_1 ++ t467) := ⟨_, rfl⟩
         replace H : (portcullisref08_Skeleton.l0 k1 t460 y470 (wrap64 (x5_1 + 1))) = some r := by first | (rw [hy470]; with_reducible exact H) | (have H2_ := (Option.bind_some _ _).symm.trans H; rw [hy470]; with_reducible exact H2_) | (have H2_ := (Option.bind_some _ _).symm.trans H; with_reducible exact H2_) | with_reducible exact H | (rw [hy470]; exact H) | exact H
         have Ny470 := Aside0.mk hy470
         clear hy470
         have H' := Aside0.mk H
         clear H
         obtain ⟨Ao17, co17, eo17⟩ := Kd.R_slice HO_3.out
         subst eo17
         have p463 : 0 ≤ (x5_1 : Int) := of_decide_eq_true (by first | (with_reducible assumption) | assumption)
         have q463 : x5_1 < (t460.length : Int) := of_decide_eq_true (by first | (with_reducible assumption) | assumption)
         obtain ⟨ad463, e463, hx463_0⟩ := Kd.at_int (Kd.R_reads' HO_3.out).2.2 x5_1 p463 q463
         cases e463
         replace p463 := eq_true p463
         replace q463 := eq_true q463
         have p464 : 0 ≤ (x5_1 : Int) := of_decide_eq_true (by first | (with_reducible assumption) | assumption)
         have q464 : x5_1 < (t460.length : Int) := of_decide_eq_true (by first | (with_reducible assumption) | assumption)
         obtain ⟨ad464, e464, hx464_0⟩ := Kd.at_int (Kd.R_reads' HO_3.out).2.2 x5_1 p464 q464
         obtain rfl : ad463 = ad464 := (by injection e464)
         replace p464 := eq_true p464
         replace q464 := eq_true q464
         have p465 : 0 ≤ (x5_1 : Int) := of_decide_eq_true (by first | (with_reducible assumption) | assumption)
         have q465 : x5_1 < (t460.length : Int) := of_decide_eq_true (by first | (with_reducible assumption) | assumption)
         obtain ⟨ad465, e465, hx465_0⟩ := Kd.at_int (Kd.R_reads' HO_3.out).2.2 x5_1 p465 q465
         obtain rfl : ad463 = ad465 := (by injection e465)
         replace p465 := eq_true p465
         replace q465 := eq_true q465
         have p466 : 0 ≤ (x5_1 : Int) := of_decide_eq_true (by first | (with_reducible assumption) | assumption)
         have q466 : x5_1 < (t460.length : Int) := of_decide_eq_true (by first | (with_reducible assumption) | assumption)
         obtain ⟨ad466, e466, hx466_0⟩ := Kd.at_int (Kd.R_reads' HO_3.out).2.2 x5_1 p466 q466
         obtain rfl : ad463 = ad466 := (by injection e466)
         replace p466 := eq_true p466
         replace q466 := eq_true q466
         go_wp2_with (first | ((with_reducible refine gate_callee (f := 29) rfl ?_); refine goesL_ (some 41) rfl rfl Tryd.func29 (by kernel_rfl) rfl #[.int .i32 (rd t460 x5_1)] rfl (by (try simp only [List.map_toArray, List.map_cons, List.map_nil]); first | done | rfl | (simp only [List.length_drop, List.length_take]; rfl)) ?_; (with_reducible refine (portcullisref03_Like.calls (rd t460 x5_1) t467 _ A15.out).mono ?_); rintro e w18 ⟨v468, rfl, ho0, hb⟩; refine ⟨_, rfl, ?_⟩; have n0_ := Aside0.mk (Kd.R_elder' (by (with_reducible repeat (first | apply Kd.R_alloc | apply Kd.R_drewN | apply Kd.R_drew)); exact HO_3.out) (Kd.R_base ho0) hb); have n1_ := Aside0.mk (Kd.R_elder' (by (with_reducible repeat (first | apply Kd.R_alloc | apply Kd.R_drewN | apply Kd.R_drew)); exact HO_4.out) (Kd.R_base ho0) hb); have n2_ := Aside0.mk (Kd.R_lower (Kd.R_new' (Kd.R_new' ho0 (Kd.R_lt (by (with_reducible repeat (first | apply Kd.R_alloc | apply Kd.R_drewN | apply Kd.R_drew)); exact HO_3.out))) (Kd.R_lt (by (with_reducible repeat (first | apply Kd.R_alloc | apply Kd.R_drewN | apply Kd.R_drew)); exact HO_4.out))) (below_size (by repeat (first | (with_reducible first | exact HB.out | apply below_alloc | apply pw_below_drewN | apply below_drew1) | exact HB.out)))); have n3_ := Aside0.mk (below_step (by repeat (first | (with_reducible first | exact HB.out | apply below_alloc | apply pw_below_drewN | apply below_drew1) | exact HB.out)) hb); clear HO_3; clear HO_4; clear HB; have HO_3 := n0_; have HO_4 := n1_; have HO469 := n2_; have HB := n3_; clear n0_ n1_ n2_ n3_; (try clear hb); (try clear hb2); (try clear hk); (try clear hi); (try clear ho0); obtain ⟨Ao20, co20, eo20⟩ := Kd.R_slice HO469.out; subst eo20) | ((with_reducible refine gate_builtin (b := .append) (xs := #[.tmp 42, .tmp 43]) rfl ?_); at_builtin; refine Kd.R_append_rows (Kd.int .i32) (w0 := w) w.heap.size rfl (.tmp 42) (.tmp 43) 38 21 (.int .i32 0) 4 rfl Tryd.underlying38 info21 rfl (by decide) (by omega) u4 x4_1 t467 _ _ _ (fun k_ => some k_ ≠ (.slice (some ad463) t460.length co17 : Value).ownBlock ∧ some k_ ≠ (.slice Ao20 t467.length co20 : Value).ownBlock) (fun _ => False) rfl rfl ?aO ?aR (fun _ _ h => h) (fun _ h => h.elim) ?aF ?aB ?aS ?aL ?_; (case aR => repeat (first | exact (Kd.R_reads' HO469.out).2.2 | (with_reducible refine Kd.C_alloc ?_ _) | (with_reducible refine Kd.C_drewN ?_ _) | (with_reducible refine Kd.C_drew ?_))); (case aB => exact (by repeat (first | (with_reducible first | exact HB.out | apply below_alloc | apply pw_below_drewN | apply below_drew1) | exact HB.out))); (case aF => exact (fun k_ hk => ⟨Kd.fresh' (Kd.R_lt (by (with_reducible repeat (first | apply Kd.R_alloc | apply Kd.R_drewN | apply Kd.R_drew)); exact HO_3.out)) k_ hk, Kd.fresh' (Kd.R_lt (by (with_reducible repeat (first | apply Kd.R_alloc | apply Kd.R_drewN | apply Kd.R_drew)); exact HO469.out)) k_ hk⟩)); (case aO => exact (by (with_reducible repeat (first | apply Kd.R_alloc | apply Kd.R_drewN | apply Kd.R_drew)); exact HO_4.out)); (case aS => exact (below_size (by repeat (first | (with_reducible first | exact HB.out | apply below_alloc | apply pw_below_drewN | apply below_drew1) | exact HB.out)))); (case aL => have := LMc16.out; omega); intro v471 w19 ho hb hg hat; rw [← Ny470.out] at ho; have n0_ := Aside0.mk (Kd.R_after (ok := (fun k_ => some k_ ≠ (.slice Ao20 t467.length co20 : Value).ownBlock)) (by (with_reducible repeat (first | apply Kd.R_alloc | apply Kd.R_drewN | apply Kd.R_drew)); exact Kd.R_mono HO_3.out (fun _ hk => ⟨hk.2, hk.1⟩)) hg hat); have n1_ := Aside0.mk (Kd.R_after (ok := (fun k_ => some k_ ≠ (.slice (some ad463) t460.length co17 : Value).ownBlock)) (by (with_reducible repeat (first | apply Kd.R_alloc | apply Kd.R_drewN | apply Kd.R_drew)); exact Kd.R_mono HO469.out (fun _ hk => ⟨hk.1.2, hk.2⟩)) hg hat); have n2_ := Aside0.mk (hb); have n3_ := Aside0.mk (ho); clear HO_3; clear HO469; clear HB; clear HO_4; have HO_3 := n0_; have HO469 := n1_; have HB := n2_; have HO472 := n3_; clear n0_ n1_ n2_ n3_; clear ho hb hg hat))
         go_roundg k1
         case measure => have := HK1.out; omega
         case rel => exact ⟨(y470), (wrap64 (x5_1 + 1)), (by first | rfl | (simp; done) | (simp [*]; done)), H', ⟨by have := HK1.out; omega⟩, ⟨by (with_reducible repeat (first | apply Kd.R_alloc | apply Kd.R_drewN | apply Kd.R_drew)); exact Kd.R_mono HO_3.out (fun _ hk => hk.2)⟩, ⟨by (with_reducible repeat (first | apply Kd.R_alloc | apply Kd.R_drewN | apply Kd.R_drew)); exact Kd.R_mono HO472.out (fun _ hk => hk.1)⟩, ⟨by repeat (first | (with_reducible first | exact HB.out | apply below_alloc | apply pw_below_drewN | apply below_drew1) | exact HB.out)⟩⟩
        ·rw [if_neg c16] at H
         exact absurd H (by simp)
    ·rw [if_neg c8] at H
     exact absurd H (by simp)
   ·rw [if_neg c7] at H
    have c7b0 : decide (x5_1 < (t460.length : Int)) = false := decide_eq_false c7
    clear c7
    replace H := Option.bind_eq_some_iff.mp H
    obtain ⟨t473, A210, H⟩ := H
    replace H : ((portcullisref01_Encode.f k1 t473).bind fun bt476 => (some bt476.1)) = some r := H
    have A21 := Aside0.mk A210
    clear A210
    replace H := Option.bind_eq_some_iff.mp H
    obtain ⟨⟨t476, t477⟩, A220, H⟩ := H
    replace H : (some t476) = some r := H
    have A22 := Aside0.mk A220
    clear A220
    obtain rfl := Option.some.inj H
    obtain ⟨Ao23, co23, eo23⟩ := Kd.R_slice HO_3.out
    subst eo23
    obtain ⟨Ao24, co24, eo24⟩ := Kd.R_slice HO_4.out
    subst eo24
    go_wp2_with (first | ((with_reducible refine gate_callee (f := 28) rfl ?_); refine goesL_ (some 47) rfl rfl Tryd.func28 (by kernel_rfl) rfl #[.slice Ao24 x4_1.length co24] rfl (by (try simp only [List.map_toArray, List.map_cons, List.map_nil]); first | done | rfl | (simp only [List.length_drop, List.length_take]; rfl)) ?_; (with_reducible refine (portcullisref04_NFD.calls k1 _ _ x4_1 t473 _ ?side1 ?side2 A21.out).mono ?_); (case side1 => repeat (first | exact (Kd.R_reads' HO_4.out).2.2 | (with_reducible refine Kd.C_alloc ?_ _) | (with_reducible refine Kd.C_drewN ?_ _) | (with_reducible refine Kd.C_drew ?_))); (case side2 => exact (Kd.R_reads' HO_4.out).2.1); rintro e w25 ⟨v474, rfl, ho0, hb⟩; refine ⟨_, rfl, ?_⟩; have n0_ := Aside0.mk (Kd.R_elder' (by (with_reducible repeat (first | apply Kd.R_alloc | apply Kd.R_drewN | apply Kd.R_drew)); exact HO_3.out) (Kd.R_base ho0) hb); have n1_ := Aside0.mk (Kd.R_elder' (by (with_reducible repeat (first | apply Kd.R_alloc | apply Kd.R_drewN | apply Kd.R_drew)); exact HO_4.out) (Kd.R_base ho0) hb); have n2_ := Aside0.mk (Kd.R_lower (Kd.R_new' (Kd.R_new' ho0 (Kd.R_lt (by (with_reducible repeat (first | apply Kd.R_alloc | apply Kd.R_drewN | apply Kd.R_drew)); exact HO_3.out))) (Kd.R_lt (by (with_reducible repeat (first | apply Kd.R_alloc | apply Kd.R_drewN | apply Kd.R_drew)); exact HO_4.out))) (below_size (by repeat (first | (with_reducible first | exact HB.out | apply below_alloc | apply pw_below_drewN | apply below_drew1) | exact HB.out)))); have n3_ := Aside0.mk (below_step (by repeat (first | (with_reducible first | exact HB.out | apply below_alloc | apply pw_below_drewN | apply below_drew1) | exact HB.out)) hb); clear HO_3; clear HO_4; clear HB; have HO_3 := n0_; have HO_4 := n1_; have HO475 := n2_; have HB := n3_; clear n0_ n1_ n2_ n3_; (try clear hb); (try clear hb2); (try clear hk); (try clear hi); (try clear ho0); obtain ⟨Ao26, co26, eo26⟩ := Kd.R_slice HO475.out; subst eo26) | ((with_reducible refine gate_callee (f := 25) rfl ?_); refine goesL_ (some 48) rfl rfl Tryd.func25 (by kernel_rfl) rfl #[.slice Ao26 t473.length co26] rfl (by (try simp only [List.map_toArray, List.map_cons, List.map_nil]); first | done | rfl | (simp only [List.length_drop, List.length_take]; rfl)) ?_; (with_reducible refine (portcullisref01_Encode.calls k1 _ _ t473 t476 t477 _ ?side1 ?side2 A22.out).mono ?_); (case side1 => repeat (first | exact (Kd.R_reads' HO475.out).2.2 | (with_reducible refine Kd.C_alloc ?_ _) | (with_reducible refine Kd.C_drewN ?_ _) | (with_reducible refine Kd.C_drew ?_))); (case side2 => exact (Kd.R_reads' HO475.out).2.1); rintro e w27 ⟨rfl, hb⟩; refine ⟨_, rfl, ?_⟩; have n0_ := Aside0.mk (Kd.R_below (by (with_reducible repeat (first | apply Kd.R_alloc | apply Kd.R_drewN | apply Kd.R_drew)); exact HO_3.out) hb); have n1_ := Aside0.mk (Kd.R_below (by (with_reducible repeat (first | apply Kd.R_alloc | apply Kd.R_drewN | apply Kd.R_drew)); exact HO_4.out) hb); have n2_ := Aside0.mk (Kd.R_below (by (with_reducible repeat (first | apply Kd.R_alloc | apply Kd.R_drewN | apply Kd.R_drew)); exact HO475.out) hb); have n3_ := Aside0.mk (below_step (by repeat (first | (with_reducible first | exact HB.out | apply below_alloc | apply pw_below_drewN | apply below_drew1) | exact HB.out)) hb); clear HO_3; clear HO_4; clear HO475; clear HB; have HO_3 := n0_; have HO_4 := n1_; have HO475 := n2_; have HB := n3_; clear n0_ n1_ n2_ n3_; (try clear hb); (try clear hb2); (try clear hk); (try clear hi)))
    go_ret
    exact ⟨by first | rfl | (simp [errW_none, errW_some] <;> rfl) | (simp [*, errW_none, errW_some] <;> rfl), by repeat (first | (with_reducible first | exact HB.out | apply below_alloc | apply pw_below_drewN | apply below_drew1) | exact HB.out)⟩

mutual
def portcullisref08_Scripts.l0 : Nat → List Int → List Int → Int → Option (List Int)
 | 0, _, _, _ => none
 | k + 1, x3, x4, x5 => if x5 ≤ 11 then (portcullisref08_Scripts.l1 k x3 x4 x5 0) else (some x4)
def portcullisref08_Scripts.l1 : Nat → List Int → List Int → Int → Int → Option (List Int)
 | 0, _, _, _, _ => none
 | k + 1, x3, x4, x5, x6 => if x6 < (x3.length : Int) then (if 0 ≤ x6 then ((portcullisref03_Find.f k (rd x3 x6)).bind fun bt482 => (if bt482.2.2.2.2.2.2.1 = x5 then (if x4.length < 140737488355328 then (portcullisref08_Scripts.l0 k x3 (x4 ++ [x5]) ((x5 + 1) % 256)) else (none)) else (portcullisref08_Scripts.l1 k x3 x4 x5 (wrap64 (x6 + 1))))) else (none)) else (portcullisref08_Scripts.l0 k x3 x4 ((x5 + 1) % 256))
end
def portcullisref08_Scripts.f (k : Nat) (a0 : ByteArray) : Option (List Int) := (portcullisref01_Decode.f k a0).bind fun t478 => (portcullisref08_Scripts.l0 k t478 ([] : List Int) 2)
theorem portcullisref08_Scripts.mono_l : ∀ k, (∀ y0 y1 y2, LeO (portcullisref08_Scripts.l0 k y0 y1 y2) (portcullisref08_Scripts.l0 (k + 1) y0 y1 y2)) ∧ (∀ y0 y1 y2 y3, LeO (portcullisref08_Scripts.l1 k y0 y1 y2 y3) (portcullisref08_Scripts.l1 (k + 1) y0 y1 y2 y3))
 | 0 => ⟨fun _ _ _ r h => by simp [portcullisref08_Scripts.l0] at h, fun _ _ _ _ r h => by simp [portcullisref08_Scripts.l1] at h⟩
 | k + 1 => by
  obtain ⟨ih0, ih1⟩ := portcullisref08_Scripts.mono_l k
  refine ⟨?_, ?_⟩
  ·intro y0 y1 y2
   unfold portcullisref08_Scripts.l0
   repeat' first
   | (with_reducible exact ih0 _ _ _)
   | (with_reducible exact ih1 _ _ _ _)
   | (with_reducible exact portcullisref01_Decode.mono _ _)
   | (with_reducible exact portcullisref03_Find.mono _ _)
   | (with_reducible exact LeO.refl _)
   | (with_reducible exact LeO.none _)
   | (with_reducible refine LeO.ite ?_ ?_)
   | (with_reducible refine LeO.bind ?_ (fun _ => ?_))
   | exact ih0 _ _ _
   | exact ih1 _ _ _ _
   | exact portcullisref01_Decode.mono _ _
   | exact portcullisref03_Find.mono _ _
   | exact LeO.none _
   | refine LeO.ite ?_ ?_
   | refine LeO.bind ?_ (fun _ => ?_)
  ·intro y0 y1 y2 y3
   unfold portcullisref08_Scripts.l1
   repeat' first
   | (with_reducible exact ih0 _ _ _)
   | (with_reducible exact ih1 _ _ _ _)
   | (with_reducible exact portcullisref01_Decode.mono _ _)
   | (with_reducible exact portcullisref03_Find.mono _ _)
   | (with_reducible exact LeO.refl _)
   | (with_reducible exact LeO.none _)
   | (with_reducible refine LeO.ite ?_ ?_)
   | (with_reducible refine LeO.bind ?_ (fun _ => ?_))
   | exact ih0 _ _ _
   | exact ih1 _ _ _ _
   | exact portcullisref01_Decode.mono _ _
   | exact portcullisref03_Find.mono _ _
   | exact LeO.none _
   | refine LeO.ite ?_ ?_
   | refine LeO.bind ?_ (fun _ => ?_)
theorem portcullisref08_Scripts.mono : ∀ a0 k, LeO (portcullisref08_Scripts.f k a0) (portcullisref08_Scripts.f (k + 1) a0) := by
 intro a0 k
 obtain ⟨ih0, ih1⟩ := portcullisref08_Scripts.mono_l k
 unfold portcullisref08_Scripts.f
 repeat' first
   | (with_reducible exact ih0 _ _ _)
   | (with_reducible exact ih1 _ _ _ _)
   | (with_reducible exact portcullisref01_Decode.mono _ _)
   | (with_reducible exact portcullisref03_Find.mono _ _)
   | (with_reducible exact LeO.refl _)
   | (with_reducible exact LeO.none _)
   | (with_reducible refine LeO.ite ?_ ?_)
   | (with_reducible refine LeO.bind ?_ (fun _ => ?_))
   | exact ih0 _ _ _
   | exact ih1 _ _ _ _
   | exact portcullisref01_Decode.mono _ _
   | exact portcullisref03_Find.mono _ _
   | exact LeO.none _
   | refine LeO.ite ?_ ?_
   | refine LeO.bind ?_ (fun _ => ?_)
set_option maxHeartbeats 8000000 in
set_option maxRecDepth 100000 in
theorem portcullisref08_Scripts.calls (k : Nat) (a0 : ByteArray) (r : List Int) (w : World) (h : portcullisref08_Scripts.f k a0 = some r) :
  Calls Tryd.prog 14 #[.string a0] w fun e w' => ∃ v0_ : Value, e = .returned (v0_) ∧ Kd.R (Kd.int .u8) 5 w' w.heap.size (fun _ => True) v0_ r ∧ Below w.heap.size w w' := by
 have HB := Aside0.mk (Below.refl w.heap.size w)
 have H : ((portcullisref01_Decode.f k a0).bind fun t478 => (portcullisref08_Scripts.l0 k t478 ([] : List Int) 2)) = some r := h
 clear h
 replace H := Option.bind_eq_some_iff.mp H
 obtain ⟨t478, A20, H⟩ := H
 replace H : (portcullisref08_Scripts.l0 k t478 ([] : List Int) 2) = some r := H
 have A2 := Aside0.mk A20
 clear A20
 have H' := Aside0.mk H
 clear H
 go_enter Tryd.func14, Tryd.ntmps14
 go_wp2_with (first | ((with_reducible refine gate_callee (f := 27) rfl ?_); refine goesL_ (some 8) rfl rfl Tryd.func27 (by kernel_rfl) rfl #[.string a0] rfl (by (try simp only [List.map_toArray, List.map_cons, List.map_nil]); first | done | rfl | (simp only [List.length_drop, List.length_take]; rfl)) ?_; (with_reducible refine (portcullisref01_Decode.calls k a0 t478 _ A2.out).mono ?_); rintro e w3 ⟨v479, rfl, ho0, hb⟩; refine ⟨_, rfl, ?_⟩; have n0_ := Aside0.mk (Kd.R_lower ho0 (below_size (by repeat (first | (with_reducible first | exact HB.out | apply below_alloc | apply pw_below_drewN | apply below_drew1) | exact HB.out)))); have n1_ := Aside0.mk (below_step (by repeat (first | (with_reducible first | exact HB.out | apply below_alloc | apply pw_below_drewN | apply below_drew1) | exact HB.out)) hb); clear HB; have HO480 := n0_; have HB := n1_; clear n0_ n1_; (try clear hb); (try clear hb2); (try clear hk); (try clear hi); (try clear ho0)))
 go_loopg [4, 5] k (fun kq v4 v5 w' => ∃ (x4_1 : List Int) (x5_1 : Int), v5 = .int .u8 x5_1 ∧ Aside0 (portcullisref08_Scripts.l0 kq t478 x4_1 x5_1 = some r) ∧ Aside0 (kq ≤ k) ∧ Aside0 (Kd.R (Kd.int .i32) 21 w' w.heap.size (fun _ => True) v479 t478) ∧ Aside0 (Kd.R (Kd.int .u8) 5 w' w.heap.size (fun _ => True) v4 x4_1) ∧ Aside0 (Below w.heap.size w w'))
 case atStart => exact ⟨(([] : List Int)), (2), (by first | rfl | (simp; done) | (simp [*]; done)), H', ⟨Nat.le_refl _⟩, ⟨by (with_reducible repeat (first | apply Kd.R_alloc | apply Kd.R_drewN | apply Kd.R_drew)); exact HO480.out⟩, ⟨by first | exact Kd.R_nil _ _ _ _ _ | exact Kd.N_nil _ _ _ _ _ | exact Kd.V_nil _ _ _ _ _ | exact Kd.Q_nil _ _ _ _ _ | exact Kd.S_nil _ _ _ _ _⟩, ⟨by repeat (first | (with_reducible first | exact HB.out | apply below_alloc | apply pw_below_drewN | apply below_drew1) | exact HB.out)⟩⟩
 case round =>
  clear H'
  try clear c1
  try clear c2
  try clear p2
  obtain ⟨x4_1, x5_1, rfl, HA, HK1, HO_3, HO_4, HB⟩ := hrel
  cases gk with
  | zero => exact absurd HA.out (by simp [portcullisref08_Scripts.l0])
  | succ k1 =>
   have H := HA.out
   clear HA
   simp only [portcullisref08_Scripts.l0] at H
   by_cases c4 : x5_1 ≤ 11
   ·rw [if_pos c4] at H
    have c4b0 : decide (x5_1 ≤ 11) = true := decide_eq_true c4
    clear c4
    have H' := Aside0.mk H
    clear H
    go_wp2
    go_loopg [4, 6] k1 (fun kq v4 v6 w' => ∃ (x4_2 : List Int) (x6_2 : Int), v6 = .int .i64 x6_2 ∧ Aside0 (portcullisref08_Scripts.l1 kq t478 x4_2 x5_1 x6_2 = some r) ∧ Aside0 (kq ≤ k1) ∧ Aside0 (Kd.R (Kd.int .i32) 21 w' w.heap.size (fun _ => True) v479 t478) ∧ Aside0 (Kd.R (Kd.int .u8) 5 w' w.heap.size (fun _ => True) v4 x4_2) ∧ Aside0 (Below w.heap.size w w'))
    case atStart => exact ⟨(x4_1), (0), (by first | rfl | (simp; done) | (simp [*]; done)), H', ⟨Nat.le_refl _⟩, ⟨by (with_reducible repeat (first | apply Kd.R_alloc | apply Kd.R_drewN | apply Kd.R_drew)); exact HO_3.out⟩, ⟨by (with_reducible repeat (first | apply Kd.R_alloc | apply Kd.R_drewN | apply Kd.R_drew)); exact HO_4.out⟩, ⟨by repeat (first | (with_reducible first | exact HB.out | apply below_alloc | apply pw_below_drewN | apply below_drew1) | exact HB.out)⟩⟩
    case round =>
     clear H'
     try clear c1
     try clear c2
     try clear p2
     try clear c4
     try clear c4b0
     try clear p2
     obtain ⟨x4_2, x6_2, rfl, HA, HK2, HO_3, HO_4, HB⟩ := hrel
     cases gk with
     | zero => exact absurd HA.out (by simp [portcullisref08_Scripts.l1])
     | succ k2 =>
      have H := HA.out
      clear HA
      simp only [portcullisref08_Scripts.l1] at H
      by_cases c5 : x6_2 < (t478.length : Int)
      ·rw [if_pos c5] at H
       have c5b0 : decide (x6_2 < (t478.length : Int)) = true := decide_eq_true c5
       clear c5
       by_cases c6 : 0 ≤ x6_2
       ·rw [if_pos c6] at H
        have c6b0 : decide (0 ≤ x6_2) = true := decide_eq_true c6
        clear c6
        replace H := Option.bind_eq_some_iff.mp H
        obtain ⟨⟨t482, t483, t484, t485, t486, t487, t488, t489, t490, t491, t492⟩, A70, H⟩ := H
        replace H : (if t488 = x5_1 then (if x4_2.length < 140737488355328 then (portcullisref08_Scripts.l0 k2 t478 (x4_2 ++ [x5_1]) ((x5_1 + 1) % 256)) else (none)) else (portcullisref08_Scripts.l1 k2 t478 x4_2 x5_1 (wrap64 (x6_2 + 1)))) = some r := H
        have A7 := Aside0.mk A70
        clear A70
        by_cases c8 : t488 = x5_1
        ·rw [if_pos c8] at H
         have c8b0 : (t488 == x5_1) = true := beq_iff_eq.mpr c8
         have c8b1 : (t488 != x5_1) = false := bne_eq_false_iff_eq.mpr c8
         clear c8
         by_cases c9 : x4_2.length < 140737488355328
         ·rw [if_pos c9] at H
          have LMc9 := Aside0.mk c9
          clear c9
          obtain ⟨y493, hy493⟩ : ∃ y_ : List Int, y_ = (x4_2 ++ [x5_1]) := ⟨_, rfl⟩
          replace H : (portcullisref08_Scripts.l0 k2 t478 y493 ((x5_1 + 1) % 256)) = some r := by first | (rw [hy493]; with_reducible exact H) | (have H2_ := (Option.bind_some _ _).symm.trans H; rw [hy493]; with_reducible exact H2_) | (have H2_ := (Option.bind_some _ _).symm.trans H; with_reducible exact H2_) | with_reducible exact H | (rw [hy493]; exact H) | exact H
          have Ny493 := Aside0.mk hy493
          clear hy493
          have H' := Aside0.mk H
          clear H
          obtain ⟨Ao10, co10, eo10⟩ := Kd.R_slice HO_3.out
          subst eo10
          have p481 : 0 ≤ (x6_2 : Int) := of_decide_eq_true (by first | (with_reducible assumption) | assumption)
          have q481 : x6_2 < (t478.length : Int) := of_decide_eq_true (by first | (with_reducible assumption) | assumption)
          obtain ⟨ad481, e481, hx481_0⟩ := Kd.at_int (Kd.R_reads' HO_3.out).2.2 x6_2 p481 q481
          cases e481
          replace p481 := eq_true p481
          replace q481 := eq_true q481
          go_wp2_with (first | ((with_reducible refine gate_callee (f := 32) rfl ?_); refine goesL_ (some 23) rfl rfl Tryd.func32 (by kernel_rfl) rfl #[.int .i32 (rd t478 x6_2)] rfl (by (try simp only [List.map_toArray, List.map_cons, List.map_nil]); first | done | rfl | (simp only [List.length_drop, List.length_take]; rfl)) ?_; (with_reducible refine (portcullisref03_Find.calls k2 (rd t478 x6_2) t482 t483 t484 t485 t486 t487 t488 t489 t490 t491 t492 _ A7.out).mono ?_); rintro e w11 ⟨rfl, hb⟩; refine ⟨_, rfl, ?_⟩; have n0_ := Aside0.mk (Kd.R_below (by (with_reducible repeat (first | apply Kd.R_alloc | apply Kd.R_drewN | apply Kd.R_drew)); exact HO_3.out) hb); have n1_ := Aside0.mk (Kd.R_below (by (with_reducible repeat (first | apply Kd.R_alloc | apply Kd.R_drewN | apply Kd.R_drew)); exact HO_4.out) hb); have n2_ := Aside0.mk (below_step (by repeat (first | (with_reducible first | exact HB.out | apply below_alloc | apply pw_below_drewN | apply below_drew1) | exact HB.out)) hb); clear HO_3; clear HO_4; clear HB; have HO_3 := n0_; have HO_4 := n1_; have HB := n2_; clear n0_ n1_ n2_; (try clear hb); (try clear hb2); (try clear hk); (try clear hi)) | ((with_reducible refine gate_builtin (b := .append) (xs := #[.tmp 27, .tmp 29]) rfl ?_); at_builtin; refine Kd.R_append (Kd.int .u8) (w0 := w) w.heap.size rfl (.tmp 27) (.tmp 29) 27 5 (.int .u8 0) 1 rfl Tryd.underlying27 info5 rfl (by decide) (by omega) u4 x4_2 x5_1 [.int .u8 x5_1] (fun _ => True) (fun _ => False) rfl rfl ?aP (fun _ hk => hk.elim) ?aF ?aO ?aB ?aS ?aL ?_; (case aP => exact rfl); (case aB => exact (by repeat (first | (with_reducible first | exact HB.out | apply below_alloc | apply pw_below_drewN | apply below_drew1) | exact HB.out))); (case aF => exact (fun _ _ => trivial)); (case aO => exact (by (with_reducible repeat (first | apply Kd.R_alloc | apply Kd.R_drewN | apply Kd.R_drew)); exact HO_4.out)); (case aS => exact (below_size (by repeat (first | (with_reducible first | exact HB.out | apply below_alloc | apply pw_below_drewN | apply below_drew1) | exact HB.out)))); (case aL => have := LMc9.out; omega); intro v494 w12 ho hb hg hat; rw [← Ny493.out] at ho; have n0_ := Aside0.mk (Kd.R_over' (by (with_reducible repeat (first | apply Kd.R_alloc | apply Kd.R_drewN | apply Kd.R_drew)); exact HO_3.out) (Kd.R_typed (by (with_reducible repeat (first | apply Kd.R_alloc | apply Kd.R_drewN | apply Kd.R_drew)); exact HO_4.out)) (by decide) hg); have n1_ := Aside0.mk (hb); have n2_ := Aside0.mk (ho); clear HO_3; clear HB; clear HO_4; have HO_3 := n0_; have HB := n1_; have HO495 := n2_; clear n0_ n1_ n2_; clear ho hb hg hat))
          go_roundg k2
          case measure => have := HK1.out; have := HK2.out; omega
          case rel => exact ⟨(y493), ((x5_1 + 1) % 256), (by first | rfl | (simp; done) | (simp [*]; done)), H', ⟨by have := HK1.out; have := HK2.out; omega⟩, ⟨by (with_reducible repeat (first | apply Kd.R_alloc | apply Kd.R_drewN | apply Kd.R_drew)); exact HO_3.out⟩, ⟨by (with_reducible repeat (first | apply Kd.R_alloc | apply Kd.R_drewN | apply Kd.R_drew)); exact HO495.out⟩, ⟨by repeat (first | (with_reducible first | exact HB.out | apply below_alloc | apply pw_below_drewN | apply below_drew1) | exact HB.out)⟩⟩
         ·rw [if_neg c9] at H
          exact absurd H (by simp)
        ·rw [if_neg c8] at H
         have c8b0 : (t488 == x5_1) = false := beq_eq_false_iff_ne.mpr c8
         have c8b1 : (t488 != x5_1) = true := bne_iff_ne.mpr c8
         have H' := Aside0.mk H
         clear H
         obtain ⟨Ao13, co13, eo13⟩ := Kd.R_slice HO_3.out
         subst eo13
         have p481 : 0 ≤ (x6_2 : Int) := of_decide_eq_true (by first | (with_reducible assumption) | assumption)
         have q481 : x6_2 < (t478.length : Int) := of_decide_eq_true (by first | (with_reducible assumption) | assumption)
         obtain ⟨ad481, e481, hx481_0⟩ := Kd.at_int (Kd.R_reads' HO_3.out).2.2 x6_2 p481 q481
         cases e481
         replace p481 := eq_true p481
         replace q481 := eq_true q481
         go_wp2_with (first | ((with_reducible refine gate_callee (f := 32) rfl ?_); refine goesL_ (some 23) rfl rfl Tryd.func32 (by kernel_rfl) rfl #[.int .i32 (rd t478 x6_2)] rfl (by (try simp only [List.map_toArray, List.map_cons, List.map_nil]); first | done | rfl | (simp only [List.length_drop, List.length_take]; rfl)) ?_; (with_reducible refine (portcullisref03_Find.calls k2 (rd t478 x6_2) t482 t483 t484 t485 t486 t487 t488 t489 t490 t491 t492 _ A7.out).mono ?_); rintro e w14 ⟨rfl, hb⟩; refine ⟨_, rfl, ?_⟩; have n0_ := Aside0.mk (Kd.R_below (by (with_reducible repeat (first | apply Kd.R_alloc | apply Kd.R_drewN | apply Kd.R_drew)); exact HO_3.out) hb); have n1_ := Aside0.mk (Kd.R_below (by (with_reducible repeat (first | apply Kd.R_alloc | apply Kd.R_drewN | apply Kd.R_drew)); exact HO_4.out) hb); have n2_ := Aside0.mk (below_step (by repeat (first | (with_reducible first | exact HB.out | apply below_alloc | apply pw_below_drewN | apply below_drew1) | exact HB.out)) hb); clear HO_3; clear HO_4; clear HB; have HO_3 := n0_; have HO_4 := n1_; have HB := n2_; clear n0_ n1_ n2_; (try clear hb); (try clear hb2); (try clear hk); (try clear hi)))
         go_roundg k2
         case measure => have := HK1.out; have := HK2.out; omega
         case rel => exact ⟨(x4_2), (wrap64 (x6_2 + 1)), (by first | rfl | (simp; done) | (simp [*]; done)), H', ⟨by have := HK1.out; have := HK2.out; omega⟩, ⟨by (with_reducible repeat (first | apply Kd.R_alloc | apply Kd.R_drewN | apply Kd.R_drew)); exact HO_3.out⟩, ⟨by (with_reducible repeat (first | apply Kd.R_alloc | apply Kd.R_drewN | apply Kd.R_drew)); exact HO_4.out⟩, ⟨by repeat (first | (with_reducible first | exact HB.out | apply below_alloc | apply pw_below_drewN | apply below_drew1) | exact HB.out)⟩⟩
       ·rw [if_neg c6] at H
        exact absurd H (by simp)
      ·rw [if_neg c5] at H
       have c5b0 : decide (x6_2 < (t478.length : Int)) = false := decide_eq_false c5
       clear c5
       have H' := Aside0.mk H
       clear H
       obtain ⟨Ao15, co15, eo15⟩ := Kd.R_slice HO_3.out
       subst eo15
       go_wp2
       go_roundg k2
       case measure => have := HK1.out; have := HK2.out; omega
       case rel => exact ⟨(x4_2), ((x5_1 + 1) % 256), (by first | rfl | (simp; done) | (simp [*]; done)), H', ⟨by have := HK1.out; have := HK2.out; omega⟩, ⟨by (with_reducible repeat (first | apply Kd.R_alloc | apply Kd.R_drewN | apply Kd.R_drew)); exact HO_3.out⟩, ⟨by (with_reducible repeat (first | apply Kd.R_alloc | apply Kd.R_drewN | apply Kd.R_drew)); exact HO_4.out⟩, ⟨by repeat (first | (with_reducible first | exact HB.out | apply below_alloc | apply pw_below_drewN | apply below_drew1) | exact HB.out)⟩⟩
   ·rw [if_neg c4] at H
    have c4b0 : decide (x5_1 ≤ 11) = false := decide_eq_false c4
    clear c4
    obtain rfl := Option.some.inj H
    go_wp2
    go_ret
    exact ⟨_, by first | rfl | (simp [errW_none, errW_some] <;> rfl) | (simp [*, errW_none, errW_some] <;> rfl), by (with_reducible repeat (first | apply Kd.R_alloc | apply Kd.R_drewN | apply Kd.R_drew)); exact HO_4.out, by repeat (first | (with_reducible first | exact HB.out | apply below_alloc | apply pw_below_drewN | apply below_drew1) | exact HB.out)⟩

end Go.Proofs.YtncbbgmhmofhnaaDoor.Pr
end

section
namespace Go.Proofs.YtncbbgmhmofhnaaDoor.Pr
open Go.RowKit Go.Proofs.YtncbbgmhmofhnaaDoorW.PrintWords Go.Proofs.YtncbbgmhmofhnaaDoorW.PrintLast Go.Proofs.YtncbbgmhmofhnaaDoorW.PrintMore
attribute [local go_sem] max2_int min2_int max_two min_two max_three min_three max_four min_four Instr.field asAgg   -- for this text's walks alone
set_option linter.unusedVariables false
set_option linter.unusedSimpArgs false

mutual
def utf_room.j2 : Nat → Int → Int → Int → Option (Int × Int × Int)
 | 0, _, _, _ => none
 | k + 1, x0, x2, x3 => if x0 = 237 then (some (x2, 159, 3)) else (some (x2, x3, 3))
def utf_room.j0 : Nat → Int → Int → Int → Bool → Option (Int × Int × Int)
 | 0, _, _, _, _ => none
 | k + 1, x0, x2, x3, x8 => if x8 = true then (some (x2, x3, 2)) else (if x0 = 224 then (utf_room.j2 k x0 160 x3) else (if x0 ≥ 225 then (utf_room.j1 k x0 x2 x3 (decide (x0 ≤ 239))) else (utf_room.j1 k x0 x2 x3 false)))
def utf_room.j1 : Nat → Int → Int → Int → Bool → Option (Int × Int × Int)
 | 0, _, _, _, _ => none
 | k + 1, x0, x2, x3, x18 => if x18 = true then (utf_room.j2 k x0 x2 x3) else (if x0 = 240 then (if x0 = 244 then (some (144, 143, 4)) else (some (144, x3, 4))) else (if x0 ≥ 241 then (if x0 ≤ 244 then (if x0 = 244 then (some (x2, 143, 4)) else (some (x2, x3, 4))) else (some (0, 0, 0))) else (some (0, 0, 0))))
end
def utf_room.f (k : Nat) (a0 : Int) : Option (Int × Int × Int) := if a0 < 128 then (some (0, 0, 1)) else (if a0 ≥ 194 then (utf_room.j0 k a0 128 191 (decide (a0 ≤ 223))) else (utf_room.j0 k a0 128 191 false))
set_option maxHeartbeats 8000000 in
set_option maxRecDepth 100000 in
theorem utf_room.calls (k : Nat) (a0 : Int) (r1 : Int) (r2 : Int) (r3 : Int) (w : World) (h : utf_room.f k a0 = some (r1, r2, r3)) :
  Calls Tryd.prog 77 #[.int .u8 a0] w fun e w' => e = .returned (.tuple #[.int .u8 r1, .int .u8 r2, .int .i64 r3]) ∧ Drawn0 w w' := by
 have H : (if a0 < 128 then (some (0, 0, 1)) else (if a0 ≥ 194 then (utf_room.j0 k a0 128 191 (decide (a0 ≤ 223))) else (utf_room.j0 k a0 128 191 false))) = some (r1, r2, r3) := h
 clear h
 have HC2 := Aside0.mk H
 clear H
 go_enter Tryd.func77, Tryd.ntmps77
 go_upto_block 4 with (fail)
 go_cut [2, 3] (fun v2 v3 wc => ∃ (kq : Nat) (x2_1 : Int) (x3_1 : Int), v2 = .int .u8 x2_1 ∧ v3 = .int .u8 x3_1 ∧ Aside0 (utf_room.j2 kq a0 x2_1 x3_1 = some (r1, r2, r3)) ∧ Aside0 (kq ≤ k) ∧ Drawn0 w wc)
 case first =>
  have H := HC2.out
  clear HC2
  by_cases c3 : a0 < 128
  ·rw [if_pos c3] at H
   have c3b0 : decide (a0 < 128) = true := decide_eq_true c3
   clear c3
   (first | rw [c3b0] | (simp only [i64_w, i32_w]; rw [c3b0]) | skip)
   simp only [Option.some.injEq, Prod.mk.injEq] at H
   obtain ⟨rfl, rfl, rfl⟩ := H
   go_wp2
   go_ret3
   exact ⟨by first | rfl | (simp; done) | (simp [*]; done), by repeat (first | exact Drawn0.refl _ | apply Drawn0.step)⟩
  ·rw [if_neg c3] at H
   have c3b0 : decide (a0 < 128) = false := decide_eq_false c3
   clear c3
   (first | rw [c3b0] | (simp only [i64_w, i32_w]; rw [c3b0]) | skip)
   have HC4 := Aside0.mk H
   clear H
   go_upto_region 3 with (fail)
   go_cut [8] (fun v8 wc => ∃ (kq : Nat) (x8_3 : Bool), v8 = .bool x8_3 ∧ Aside0 (utf_room.j0 kq a0 128 191 x8_3 = some (r1, r2, r3)) ∧ Aside0 (kq ≤ k) ∧ Drawn0 w wc)
   case first =>
    have H := HC4.out
    clear HC4
    by_cases c5 : a0 ≥ 194
    ·rw [if_pos c5] at H
     have c5b0 : decide (194 ≤ a0) = true := decide_eq_true c5
     clear c5
     (first | rw [c5b0] | (simp only [i64_w, i32_w]; rw [c5b0]) | skip)
     have H' := Aside0.mk H
     clear H
     go_wp2
     go_meet
     case rel => exact ⟨_, (decide (a0 ≤ 223)), (by first | rfl | (simp; done) | (simp [*]; done)), H', ⟨by first | omega | exact Nat.le_refl _⟩, by repeat (first | exact Drawn0.refl _ | apply Drawn0.step)⟩
    ·rw [if_neg c5] at H
     have c5b0 : decide (194 ≤ a0) = false := decide_eq_false c5
     clear c5
     (first | rw [c5b0] | (simp only [i64_w, i32_w]; rw [c5b0]) | skip)
     have H' := Aside0.mk H
     clear H
     go_wp2
     go_meet
     case rel => exact ⟨_, (false), (by first | rfl | (simp; done) | (simp [*]; done)), H', ⟨by first | omega | exact Nat.le_refl _⟩, by repeat (first | exact Drawn0.refl _ | apply Drawn0.step)⟩
   case rest =>
    clear HC4
    try clear p2
    try clear c3
    try clear c3b0
    try clear c5
    try clear c5b0
    obtain ⟨kq, x8_3, rfl, HA, HJ3, ⟨mc3, rfl⟩⟩ := hcut
    cases kq with
    | zero => exact absurd HA.out (by simp [utf_room.j0])
    | succ kj3 =>
     have H := HA.out
     clear HA
     simp only [utf_room.j0] at H
     by_cases c6 : x8_3 = true
     ·subst c6
      have H1 : (some (128, 191, 2)) = some (r1, r2, r3) := by rw [if_pos rfl] at H; exact H
      clear H
      have H := H1
      clear H1
      simp only [Option.some.injEq, Prod.mk.injEq] at H
      obtain ⟨rfl, rfl, rfl⟩ := H
      go_wp2
      go_ret3
      exact ⟨by first | rfl | (simp; done) | (simp [*]; done), by repeat (first | exact Drawn0.refl _ | apply Drawn0.step)⟩
     ·replace c6 := Bool.eq_false_iff.mpr c6
      subst c6
      have H1 : (if a0 = 224 then (utf_room.j2 kj3 a0 160 191) else (if a0 ≥ 225 then (utf_room.j1 kj3 a0 128 191 (decide (a0 ≤ 239))) else (utf_room.j1 kj3 a0 128 191 false))) = some (r1, r2, r3) := by rw [if_neg (show ¬ (false = true) by decide)] at H; exact H
      clear H
      have H := H1
      clear H1
      by_cases c7 : a0 = 224
      ·rw [if_pos c7] at H
       have c7b0 : (a0 == 224) = true := beq_iff_eq.mpr c7
       have c7b1 : (a0 != 224) = false := bne_eq_false_iff_eq.mpr c7
       clear c7
       have H' := Aside0.mk H
       clear H
       go_wp2
       go_meet
       case rel => exact ⟨_, (160), (191), (by first | rfl | (simp; done) | (simp [*]; done)), (by first | rfl | (simp; done) | (simp [*]; done)), H', ⟨by have := HJ3.out; first | omega | exact Nat.le_refl _⟩, by repeat (first | exact Drawn0.refl _ | apply Drawn0.step)⟩
      ·rw [if_neg c7] at H
       have c7b0 : (a0 == 224) = false := beq_eq_false_iff_ne.mpr c7
       have c7b1 : (a0 != 224) = true := bne_iff_ne.mpr c7
       have HC8 := Aside0.mk H
       clear H
       go_upto_region 5 with (fail)
       go_cut [18] (fun v18 wc => ∃ (kq : Nat) (x18_7 : Bool), v18 = .bool x18_7 ∧ Aside0 (utf_room.j1 kq a0 128 191 x18_7 = some (r1, r2, r3)) ∧ Aside0 (kq ≤ kj3) ∧ Drawn0 w wc)
       case first =>
        have H := HC8.out
        clear HC8
        by_cases c9 : a0 ≥ 225
        ·rw [if_pos c9] at H
         have c9b0 : decide (225 ≤ a0) = true := decide_eq_true c9
         clear c9
         (first | rw [c9b0] | (simp only [i64_w, i32_w]; rw [c9b0]) | skip)
         have H' := Aside0.mk H
         clear H
         go_wp2
         go_meet
         case rel => exact ⟨_, (decide (a0 ≤ 239)), (by first | rfl | (simp; done) | (simp [*]; done)), H', ⟨by have := HJ3.out; first | omega | exact Nat.le_refl _⟩, by repeat (first | exact Drawn0.refl _ | apply Drawn0.step)⟩
        ·rw [if_neg c9] at H
         have c9b0 : decide (225 ≤ a0) = false := decide_eq_false c9
         clear c9
         (first | rw [c9b0] | (simp only [i64_w, i32_w]; rw [c9b0]) | skip)
         have H' := Aside0.mk H
         clear H
         go_wp2
         go_meet
         case rel => exact ⟨_, (false), (by first | rfl | (simp; done) | (simp [*]; done)), H', ⟨by have := HJ3.out; first | omega | exact Nat.le_refl _⟩, by repeat (first | exact Drawn0.refl _ | apply Drawn0.step)⟩
       case rest =>
        clear HC8
        try clear p2
        try clear c3
        try clear c3b0
        try clear c5
        try clear c5b0
        try clear c6
        try clear c7
        try clear c7b0
        try clear c7b1
        try clear c9
        try clear c9b0
        try clear p2
        obtain ⟨kq, x18_7, rfl, HA, HJ7, ⟨mc7, rfl⟩⟩ := hcut
        cases kq with
        | zero => exact absurd HA.out (by simp [utf_room.j1])
        | succ kj7 =>
         have H := HA.out
         clear HA
         simp only [utf_room.j1] at H
         by_cases c10 : x18_7 = true
         ·subst c10
          have H1 : (utf_room.j2 kj7 a0 128 191) = some (r1, r2, r3) := by rw [if_pos rfl] at H; exact H
          clear H
          have H := H1
          clear H1
          have H' := Aside0.mk H
          clear H
          go_wp2
          go_meet
          case rel => exact ⟨_, (128), (191), (by first | rfl | (simp; done) | (simp [*]; done)), (by first | rfl | (simp; done) | (simp [*]; done)), H', ⟨by have := HJ3.out; have := HJ7.out; first | omega | exact Nat.le_refl _⟩, by repeat (first | exact Drawn0.refl _ | apply Drawn0.step)⟩
         ·replace c10 := Bool.eq_false_iff.mpr c10
          subst c10
          have H1 : (if a0 = 240 then (if a0 = 244 then (some (144, 143, 4)) else (some (144, 191, 4))) else (if a0 ≥ 241 then (if a0 ≤ 244 then (if a0 = 244 then (some (128, 143, 4)) else (some (128, 191, 4))) else (some (0, 0, 0))) else (some (0, 0, 0)))) = some (r1, r2, r3) := by rw [if_neg (show ¬ (false = true) by decide)] at H; exact H
          clear H
          have H := H1
          clear H1
          by_cases c11 : a0 = 240
          ·rw [if_pos c11] at H
           have c11b0 : (a0 == 240) = true := beq_iff_eq.mpr c11
           have c11b1 : (a0 != 240) = false := bne_eq_false_iff_eq.mpr c11
           clear c11
           by_cases c12 : a0 = 244
           ·rw [if_pos c12] at H
            have c12b0 : (a0 == 244) = true := beq_iff_eq.mpr c12
            have c12b1 : (a0 != 244) = false := bne_eq_false_iff_eq.mpr c12
            clear c12
            simp only [Option.some.injEq, Prod.mk.injEq] at H
            obtain ⟨rfl, rfl, rfl⟩ := H
            go_wp2
            go_ret3
            exact ⟨by first | rfl | (simp; done) | (simp [*]; done), by repeat (first | exact Drawn0.refl _ | apply Drawn0.step)⟩
           ·rw [if_neg c12] at H
            have c12b0 : (a0 == 244) = false := beq_eq_false_iff_ne.mpr c12
            have c12b1 : (a0 != 244) = true := bne_iff_ne.mpr c12
            simp only [Option.some.injEq, Prod.mk.injEq] at H
            obtain ⟨rfl, rfl, rfl⟩ := H
            go_wp2
            go_ret3
            exact ⟨by first | rfl | (simp; done) | (simp [*]; done), by repeat (first | exact Drawn0.refl _ | apply Drawn0.step)⟩
          ·rw [if_neg c11] at H
           have c11b0 : (a0 == 240) = false := beq_eq_false_iff_ne.mpr c11
           have c11b1 : (a0 != 240) = true := bne_iff_ne.mpr c11
           by_cases c13 : a0 ≥ 241
           ·rw [if_pos c13] at H
            have c13b0 : decide (241 ≤ a0) = true := decide_eq_true c13
            clear c13
            by_cases c14 : a0 ≤ 244
            ·rw [if_pos c14] at H
             have c14b0 : decide (a0 ≤ 244) = true := decide_eq_true c14
             clear c14
             by_cases c15 : a0 = 244
             ·rw [if_pos c15] at H
              have c15b0 : (a0 == 244) = true := beq_iff_eq.mpr c15
              have c15b1 : (a0 != 244) = false := bne_eq_false_iff_eq.mpr c15
              clear c15
              simp only [Option.some.injEq, Prod.mk.injEq] at H
              obtain ⟨rfl, rfl, rfl⟩ := H
              go_wp2
              go_ret3
              exact ⟨by first | rfl | (simp; done) | (simp [*]; done), by repeat (first | exact Drawn0.refl _ | apply Drawn0.step)⟩
             ·rw [if_neg c15] at H
              have c15b0 : (a0 == 244) = false := beq_eq_false_iff_ne.mpr c15
              have c15b1 : (a0 != 244) = true := bne_iff_ne.mpr c15
              simp only [Option.some.injEq, Prod.mk.injEq] at H
              obtain ⟨rfl, rfl, rfl⟩ := H
              go_wp2
              go_ret3
              exact ⟨by first | rfl | (simp; done) | (simp [*]; done), by repeat (first | exact Drawn0.refl _ | apply Drawn0.step)⟩
            ·rw [if_neg c14] at H
             have c14b0 : decide (a0 ≤ 244) = false := decide_eq_false c14
             clear c14
             simp only [Option.some.injEq, Prod.mk.injEq] at H
             obtain ⟨rfl, rfl, rfl⟩ := H
             go_wp2
             go_ret3
             exact ⟨by first | rfl | (simp; done) | (simp [*]; done), by repeat (first | exact Drawn0.refl _ | apply Drawn0.step)⟩
           ·rw [if_neg c13] at H
            have c13b0 : decide (241 ≤ a0) = false := decide_eq_false c13
            clear c13
            simp only [Option.some.injEq, Prod.mk.injEq] at H
            obtain ⟨rfl, rfl, rfl⟩ := H
            go_wp2
            go_ret3
            exact ⟨by first | rfl | (simp; done) | (simp [*]; done), by repeat (first | exact Drawn0.refl _ | apply Drawn0.step)⟩
 case rest =>
  clear HC2
  try clear c1
  try clear p2
  try clear c3
  try clear c3b0
  try clear c5
  try clear c5b0
  try clear c6
  try clear c7
  try clear c7b0
  try clear c7b1
  try clear c9
  try clear c9b0
  try clear c10
  try clear c11
  try clear c11b0
  try clear c11b1
  try clear c12
  try clear c12b0
  try clear c12b1
  try clear c13
  try clear c13b0
  try clear c14
  try clear c14b0
  try clear c15
  try clear c15b0
  try clear c15b1
  try clear p2
  obtain ⟨kq, x2_1, x3_1, rfl, rfl, HA, HJ1, ⟨mc1, rfl⟩⟩ := hcut
  cases kq with
  | zero => exact absurd HA.out (by simp [utf_room.j2])
  | succ kj1 =>
   have H := HA.out
   clear HA
   simp only [utf_room.j2] at H
   by_cases c16 : a0 = 237
   ·rw [if_pos c16] at H
    have c16b0 : (a0 == 237) = true := beq_iff_eq.mpr c16
    have c16b1 : (a0 != 237) = false := bne_eq_false_iff_eq.mpr c16
    clear c16
    simp only [Option.some.injEq, Prod.mk.injEq] at H
    obtain ⟨rfl, rfl, rfl⟩ := H
    go_wp2
    go_ret3
    exact ⟨by first | rfl | (simp; done) | (simp [*]; done), by repeat (first | exact Drawn0.refl _ | apply Drawn0.step)⟩
   ·rw [if_neg c16] at H
    have c16b0 : (a0 == 237) = false := beq_eq_false_iff_ne.mpr c16
    have c16b1 : (a0 != 237) = true := bne_iff_ne.mpr c16
    simp only [Option.some.injEq, Prod.mk.injEq] at H
    obtain ⟨rfl, rfl, rfl⟩ := H
    go_wp2
    go_ret3
    exact ⟨by first | rfl | (simp; done) | (simp [*]; done), by repeat (first | exact Drawn0.refl _ | apply Drawn0.step)⟩

end Go.Proofs.YtncbbgmhmofhnaaDoor.Pr
end
