import Derived.Test.YtkdhmdmmdbmeaaaKlit
namespace Go.Proofs.Ytkdhmdmmdbmeaaa.Pr
open Go.RowKit Go.Proofs.YtkdhmdmmdbmeaaaW.PrintWords Go.Proofs.YtkdhmdmmdbmeaaaW.PrintLast Go.Proofs.YtkdhmdmmdbmeaaaW.PrintMore
set_option linter.unusedVariables false
set_option linter.unusedSimpArgs false

theorem reps_flat {α : Type} {R : α → List Value → Prop} {size : Nat} {f : α → List Value} (hR : ∀ x, R x (f x)) (hs : ∀ x, (f x).length = size) : ∀ xs : List α, Reps R size xs (xs.flatMap f)
  | [] => Reps.none _ _
  | x :: xs => by
    have h := reps_flat hR hs xs
    refine ⟨by rw [List.flatMap_cons, List.length_append, h.1, hs, List.length_cons, Nat.add_mul, Nat.one_mul, Nat.add_comm], fun j p hp => ?_⟩
    rw [List.flatMap_cons]
    cases j with
    | zero =>
      obtain rfl : x = p := by simpa using hp
      rw [Nat.zero_mul, List.drop_zero, List.take_append_of_le_length (Nat.le_of_eq (hs x).symm), List.take_of_length_le (Nat.le_of_eq (hs x))]
      exact hR x
    | succ j =>
      rw [Nat.add_mul, Nat.one_mul, Nat.add_comm, ← List.drop_drop, List.drop_append_of_le_length (Nat.le_of_eq (hs x).symm), List.drop_of_length_le (Nat.le_of_eq (hs x)), List.nil_append]
      exact h.2 j p (by simpa using hp)
theorem lit_R {α : Type} (d : Kd α) {f : α → List Value} (hM : ∀ (w : World) (base : Nat) (ok : Nat → Prop) (x : α), d.M w base ok x (f x)) (hs : ∀ x, (f x).length = d.sz) (xs : List α) (hm : xs.length ≤ 9223372036854775807) (e : Nat) (w : World) :
    Kd.R d e (w.alloc (.cells (xs.flatMap f).toArray e)) w.heap.size (fun _ => True) (.slice (some ⟨w.heap.size, 0, none⟩) xs.length xs.length) xs :=
  ⟨fun _ _ => trivial, OwnRow.lit (R := d.M (w.alloc (.cells (xs.flatMap f).toArray e)) w.heap.size (fun k => True ∧ some k ≠ (Value.slice (some ⟨w.heap.size, 0, none⟩) xs.length xs.length).ownBlock)) w w.heap.size (reps_flat (fun x => hM _ _ _ x) hs xs) (Nat.le_refl _) hm⟩

def cells_u (x : S37) : List Value := [.int .i32 x.f0, .int .i32 x.f1, .int .u8 x.f2, .int .u8 x.f3, .int .u8 x.f4, .int .u8 x.f5, .int .u8 x.f6, .bool x.f7]
theorem cells_u_lit {f : FuncId} {w : World} {xs : List S37} (hm : xs.length ≤ 9223372036854775807) (hc : Calls Try.prog f #[] w fun e w' => e = .returned (.slice (some ⟨w.heap.size, 0, none⟩) xs.length xs.length) ∧ w' = w.alloc (.cells (xs.flatMap cells_u).toArray 37)) :
    Calls Try.prog f #[] w fun e w' => ∃ v0_ : Value, e = .returned (v0_) ∧ Kd.R k37 37 w' w.heap.size (fun _ => True) v0_ xs ∧ Below w.heap.size w w' :=
  hc.mono fun e w' ⟨he, hw'⟩ => by
    subst hw'
    exact ⟨_, he, lit_R k37 (f := cells_u) (fun w base ok x => k37_mkM w base ok x) (fun _ => rfl) xs hm _ w, (Below.refl _ _).alloc (Nat.le_refl _) _⟩
def cells_p (x : S40) : List Value := [.int .i32 x.f0, .int .i32 x.f1, .int .i32 x.f2]
theorem cells_p_lit {f : FuncId} {w : World} {xs : List S40} (hm : xs.length ≤ 9223372036854775807) (hc : Calls Try.prog f #[] w fun e w' => e = .returned (.slice (some ⟨w.heap.size, 0, none⟩) xs.length xs.length) ∧ w' = w.alloc (.cells (xs.flatMap cells_p).toArray 40)) :
    Calls Try.prog f #[] w fun e w' => ∃ v0_ : Value, e = .returned (v0_) ∧ Kd.R k40 40 w' w.heap.size (fun _ => True) v0_ xs ∧ Below w.heap.size w w' :=
  hc.mono fun e w' ⟨he, hw'⟩ => by
    subst hw'
    exact ⟨_, he, lit_R k40 (f := cells_p) (fun w base ok x => k40_mkM w base ok x) (fun _ => rfl) xs hm _ w, (Below.refl _ _).alloc (Nat.le_refl _) _⟩
def cells_r (x : S32) : List Value := [.int .i32 x.f0, .int .i32 x.f1, .int .u8 x.f2, .int .i32 x.f3, .int .i32 x.f4, .int .i32 x.f5, .int .u8 x.f6, .int .u8 x.f7, .int .u8 x.f8, .bool x.f9, .int .u8 x.f10]
theorem cells_r_lit {f : FuncId} {w : World} {xs : List S32} (hm : xs.length ≤ 9223372036854775807) (hc : Calls Try.prog f #[] w fun e w' => e = .returned (.slice (some ⟨w.heap.size, 0, none⟩) xs.length xs.length) ∧ w' = w.alloc (.cells (xs.flatMap cells_r).toArray 32)) :
    Calls Try.prog f #[] w fun e w' => ∃ v0_ : Value, e = .returned (v0_) ∧ Kd.R k32 32 w' w.heap.size (fun _ => True) v0_ xs ∧ Below w.heap.size w w' :=
  hc.mono fun e w' ⟨he, hw'⟩ => by
    subst hw'
    exact ⟨_, he, lit_R k32 (f := cells_r) (fun w base ok x => k32_mkM w base ok x) (fun _ => rfl) xs hm _ w, (Below.refl _ _).alloc (Nat.le_refl _) _⟩
def cells_a (x : S48) : List Value := [.int .i32 x.f0, .int .i32 x.f1, .int .i32 x.f2]
theorem cells_a_lit {f : FuncId} {w : World} {xs : List S48} (hm : xs.length ≤ 9223372036854775807) (hc : Calls Try.prog f #[] w fun e w' => e = .returned (.slice (some ⟨w.heap.size, 0, none⟩) xs.length xs.length) ∧ w' = w.alloc (.cells (xs.flatMap cells_a).toArray 48)) :
    Calls Try.prog f #[] w fun e w' => ∃ v0_ : Value, e = .returned (v0_) ∧ Kd.R k48 48 w' w.heap.size (fun _ => True) v0_ xs ∧ Below w.heap.size w w' :=
  hc.mono fun e w' ⟨he, hw'⟩ => by
    subst hw'
    exact ⟨_, he, lit_R k48 (f := cells_a) (fun w base ok x => k48_mkM w base ok x) (fun _ => rfl) xs hm _ w, (Below.refl _ _).alloc (Nat.le_refl _) _⟩
def uT0 : List S37 := [⟨45, 45, 1, 0, 5, 0, 0, false⟩,
  ⟨46, 46, 1, 0, 6, 0, 0, false⟩,
  ⟨48, 57, 1, 0, 4, 0, 0, false⟩,
  ⟨65, 90, 3, 2, 1, 0, 0, false⟩,
  ⟨95, 95, 1, 0, 0, 0, 0, false⟩,
  ⟨97, 122, 1, 2, 1, 0, 0, false⟩,
  ⟨170, 170, 3, 2, 1, 0, 0, false⟩,
  ⟨173, 173, 2, 0, 9, 0, 0, false⟩,
  ⟨178, 179, 3, 0, 4, 0, 0, false⟩,
  ⟨185, 185, 3, 0, 4, 0, 0, false⟩,
  ⟨186, 186, 3, 2, 1, 0, 0, false⟩,
  ⟨192, 214, 3, 2, 1, 0, 0, false⟩,
  ⟨216, 222, 3, 2, 1, 0, 0, false⟩,
  ⟨223, 223, 4, 2, 1, 0, 0, false⟩,
  ⟨224, 246, 1, 2, 1, 0, 0, false⟩,
  ⟨248, 255, 1, 2, 1, 0, 0, false⟩,
  ⟨376, 376, 3, 2, 1, 0, 0, false⟩,
  ⟨469, 469, 3, 2, 1, 0, 0, false⟩,
  ⟨470, 470, 1, 2, 1, 0, 0, false⟩,
  ⟨768, 772, 1, 1, 8, 230, 4, true⟩,
  ⟨774, 776, 1, 1, 8, 230, 4, true⟩,
  ⟨778, 778, 1, 1, 8, 230, 4, true⟩,
  ⟨803, 803, 1, 1, 8, 220, 4, true⟩,
  ⟨807, 808, 1, 1, 8, 202, 4, true⟩,
  ⟨902, 902, 3, 3, 1, 0, 0, false⟩,
  ⟨904, 906, 3, 3, 1, 0, 0, false⟩,
  ⟨908, 908, 3, 3, 1, 0, 0, false⟩,
  ⟨910, 911, 3, 3, 1, 0, 0, false⟩,
  ⟨913, 929, 3, 3, 1, 0, 0, false⟩,
  ⟨931, 937, 3, 3, 1, 0, 0, false⟩]
def unidata_rows0.f : Option (List (S37)) := some uT0
set_option maxRecDepth 100000 in
theorem unidata_rows0.run (w : World) : Calls Try.prog 32 #[] w fun e w' => e = .returned (.slice (some ⟨w.heap.size, 0, none⟩) uT0.length uT0.length) ∧ w' = w.alloc (.cells (uT0.flatMap cells_u).toArray 37) :=
  lit_calls Try.func32 rfl rfl (fun g => by kernel_rfl) w
theorem unidata_rows0.calls (r : List (S37)) (w : World) (h : unidata_rows0.f = some r) :
    Calls Try.prog 32 #[] w fun e w' => ∃ v0_ : Value, e = .returned (v0_) ∧ Kd.R k37 37 w' w.heap.size (fun _ => True) v0_ r ∧ Below w.heap.size w w' := by
  obtain rfl : uT0 = r := Option.some.inj h
  exact cells_u_lit (by decide) (unidata_rows0.run w)
def uT1 : List S37 := [⟨940, 943, 1, 3, 1, 0, 0, false⟩,
  ⟨945, 961, 1, 3, 1, 0, 0, false⟩,
  ⟨962, 962, 4, 3, 1, 0, 0, false⟩,
  ⟨963, 969, 1, 3, 1, 0, 0, false⟩,
  ⟨972, 974, 1, 3, 1, 0, 0, false⟩,
  ⟨1025, 1025, 3, 4, 1, 0, 0, false⟩,
  ⟨1029, 1030, 3, 4, 1, 0, 0, false⟩,
  ⟨1032, 1032, 3, 4, 1, 0, 0, false⟩,
  ⟨1040, 1071, 3, 4, 1, 0, 0, false⟩,
  ⟨1072, 1103, 1, 4, 1, 0, 0, false⟩,
  ⟨1105, 1105, 1, 4, 1, 0, 0, false⟩,
  ⟨1109, 1110, 1, 4, 1, 0, 0, false⟩,
  ⟨1112, 1112, 1, 4, 1, 0, 0, false⟩,
  ⟨1488, 1514, 1, 5, 2, 0, 0, false⟩,
  ⟨1575, 1575, 1, 6, 3, 0, 2, false⟩,
  ⟨1576, 1576, 1, 6, 3, 0, 3, false⟩,
  ⟨1578, 1578, 1, 6, 3, 0, 3, false⟩,
  ⟨1583, 1583, 1, 6, 3, 0, 2, false⟩,
  ⟨1587, 1587, 1, 6, 3, 0, 3, false⟩,
  ⟨1604, 1606, 1, 6, 3, 0, 3, false⟩,
  ⟨1608, 1608, 1, 6, 3, 0, 2, false⟩,
  ⟨1610, 1610, 1, 6, 3, 0, 3, false⟩,
  ⟨1611, 1611, 1, 1, 8, 27, 4, true⟩,
  ⟨1632, 1641, 1, 6, 7, 0, 0, false⟩,
  ⟨1776, 1785, 1, 6, 4, 0, 0, false⟩,
  ⟨2325, 2361, 1, 7, 1, 0, 0, false⟩,
  ⟨2367, 2367, 1, 7, 1, 0, 0, true⟩,
  ⟨2381, 2381, 1, 7, 8, 9, 4, true⟩,
  ⟨7776, 7776, 3, 2, 1, 0, 0, false⟩,
  ⟨7777, 7777, 1, 2, 1, 0, 0, false⟩]
def unidata_rows1.f : Option (List (S37)) := some uT1
set_option maxRecDepth 100000 in
theorem unidata_rows1.run (w : World) : Calls Try.prog 33 #[] w fun e w' => e = .returned (.slice (some ⟨w.heap.size, 0, none⟩) uT1.length uT1.length) ∧ w' = w.alloc (.cells (uT1.flatMap cells_u).toArray 37) :=
  lit_calls Try.func33 rfl rfl (fun g => by kernel_rfl) w
theorem unidata_rows1.calls (r : List (S37)) (w : World) (h : unidata_rows1.f = some r) :
    Calls Try.prog 33 #[] w fun e w' => ∃ v0_ : Value, e = .returned (v0_) ∧ Kd.R k37 37 w' w.heap.size (fun _ => True) v0_ r ∧ Below w.heap.size w w' := by
  obtain rfl : uT1 = r := Option.some.inj h
  exact cells_u_lit (by decide) (unidata_rows1.run w)
def uT2 : List S37 := [⟨7778, 7778, 3, 2, 1, 0, 0, false⟩,
  ⟨7779, 7779, 1, 2, 1, 0, 0, false⟩,
  ⟨7784, 7784, 3, 2, 1, 0, 0, false⟩,
  ⟨7785, 7785, 1, 2, 1, 0, 0, false⟩,
  ⟨7838, 7838, 3, 2, 1, 0, 0, false⟩,
  ⟨8204, 8204, 4, 1, 9, 0, 0, false⟩,
  ⟨8205, 8205, 4, 1, 9, 0, 5, false⟩,
  ⟨8486, 8486, 3, 3, 1, 0, 0, false⟩,
  ⟨8490, 8490, 3, 2, 1, 0, 0, false⟩,
  ⟨8491, 8491, 3, 2, 1, 0, 0, false⟩,
  ⟨9731, 9731, 1, 0, 0, 0, 0, false⟩,
  ⟨12290, 12290, 3, 0, 0, 0, 0, false⟩,
  ⟨12353, 12438, 1, 8, 1, 0, 0, false⟩,
  ⟨12449, 12538, 1, 9, 1, 0, 0, false⟩,
  ⟨12540, 12540, 1, 0, 1, 0, 0, false⟩,
  ⟨19968, 20108, 1, 10, 1, 0, 0, false⟩,
  ⟨64257, 64257, 3, 2, 1, 0, 0, false⟩,
  ⟨65285, 65285, 3, 0, 0, 0, 0, false⟩,
  ⟨65293, 65293, 3, 0, 5, 0, 0, false⟩,
  ⟨65294, 65294, 3, 0, 6, 0, 0, false⟩,
  ⟨65295, 65295, 3, 0, 6, 0, 0, false⟩,
  ⟨65296, 65305, 3, 0, 4, 0, 0, false⟩,
  ⟨65313, 65338, 3, 2, 1, 0, 0, false⟩,
  ⟨65345, 65370, 3, 2, 1, 0, 0, false⟩,
  ⟨65377, 65377, 3, 0, 0, 0, 0, false⟩,
  ⟨66560, 66599, 3, 11, 1, 0, 0, false⟩,
  ⟨66600, 66639, 1, 11, 1, 0, 0, false⟩,
  ⟨128512, 128512, 1, 0, 0, 0, 0, false⟩]
def unidata_rows2.f : Option (List (S37)) := some uT2
set_option maxRecDepth 100000 in
theorem unidata_rows2.run (w : World) : Calls Try.prog 34 #[] w fun e w' => e = .returned (.slice (some ⟨w.heap.size, 0, none⟩) uT2.length uT2.length) ∧ w' = w.alloc (.cells (uT2.flatMap cells_u).toArray 37) :=
  lit_calls Try.func34 rfl rfl (fun g => by kernel_rfl) w
theorem unidata_rows2.calls (r : List (S37)) (w : World) (h : unidata_rows2.f = some r) :
    Calls Try.prog 34 #[] w fun e w' => ∃ v0_ : Value, e = .returned (v0_) ∧ Kd.R k37 37 w' w.heap.size (fun _ => True) v0_ r ∧ Below w.heap.size w w' := by
  obtain rfl : uT2 = r := Option.some.inj h
  exact cells_u_lit (by decide) (unidata_rows2.run w)
def uP0 : List S40 := [⟨192, 65, 768⟩,
  ⟨193, 65, 769⟩,
  ⟨194, 65, 770⟩,
  ⟨195, 65, 771⟩,
  ⟨196, 65, 776⟩,
  ⟨197, 65, 778⟩,
  ⟨199, 67, 807⟩,
  ⟨200, 69, 768⟩,
  ⟨201, 69, 769⟩,
  ⟨202, 69, 770⟩,
  ⟨203, 69, 776⟩,
  ⟨204, 73, 768⟩,
  ⟨205, 73, 769⟩,
  ⟨206, 73, 770⟩,
  ⟨207, 73, 776⟩,
  ⟨209, 78, 771⟩,
  ⟨210, 79, 768⟩,
  ⟨211, 79, 769⟩,
  ⟨212, 79, 770⟩,
  ⟨213, 79, 771⟩,
  ⟨214, 79, 776⟩,
  ⟨217, 85, 768⟩,
  ⟨218, 85, 769⟩,
  ⟨219, 85, 770⟩,
  ⟨220, 85, 776⟩,
  ⟨221, 89, 769⟩,
  ⟨224, 97, 768⟩,
  ⟨225, 97, 769⟩,
  ⟨226, 97, 770⟩,
  ⟨227, 97, 771⟩,
  ⟨228, 97, 776⟩,
  ⟨229, 97, 778⟩,
  ⟨231, 99, 807⟩,
  ⟨232, 101, 768⟩,
  ⟨233, 101, 769⟩,
  ⟨234, 101, 770⟩,
  ⟨235, 101, 776⟩,
  ⟨236, 105, 768⟩,
  ⟨237, 105, 769⟩,
  ⟨238, 105, 770⟩]
def unidata_pairs0.f : Option (List (S40)) := some uP0
set_option maxRecDepth 100000 in
theorem unidata_pairs0.run (w : World) : Calls Try.prog 37 #[] w fun e w' => e = .returned (.slice (some ⟨w.heap.size, 0, none⟩) uP0.length uP0.length) ∧ w' = w.alloc (.cells (uP0.flatMap cells_p).toArray 40) :=
  lit_calls Try.func37 rfl rfl (fun g => by kernel_rfl) w
theorem unidata_pairs0.calls (r : List (S40)) (w : World) (h : unidata_pairs0.f = some r) :
    Calls Try.prog 37 #[] w fun e w' => ∃ v0_ : Value, e = .returned (v0_) ∧ Kd.R k40 40 w' w.heap.size (fun _ => True) v0_ r ∧ Below w.heap.size w w' := by
  obtain rfl : uP0 = r := Option.some.inj h
  exact cells_p_lit (by decide) (unidata_pairs0.run w)
def uP1 : List S40 := [⟨239, 105, 776⟩,
  ⟨241, 110, 771⟩,
  ⟨242, 111, 768⟩,
  ⟨243, 111, 769⟩,
  ⟨244, 111, 770⟩,
  ⟨245, 111, 771⟩,
  ⟨246, 111, 776⟩,
  ⟨249, 117, 768⟩,
  ⟨250, 117, 769⟩,
  ⟨251, 117, 770⟩,
  ⟨252, 117, 776⟩,
  ⟨253, 121, 769⟩,
  ⟨255, 121, 776⟩,
  ⟨376, 89, 776⟩,
  ⟨469, 220, 772⟩,
  ⟨470, 252, 772⟩,
  ⟨902, 913, 769⟩,
  ⟨904, 917, 769⟩,
  ⟨905, 919, 769⟩,
  ⟨906, 921, 769⟩,
  ⟨908, 927, 769⟩,
  ⟨910, 933, 769⟩,
  ⟨911, 937, 769⟩,
  ⟨940, 945, 769⟩,
  ⟨941, 949, 769⟩,
  ⟨942, 951, 769⟩,
  ⟨943, 953, 769⟩,
  ⟨972, 959, 769⟩,
  ⟨973, 965, 769⟩,
  ⟨974, 969, 769⟩,
  ⟨1025, 1045, 776⟩,
  ⟨1049, 1048, 774⟩,
  ⟨1081, 1080, 774⟩,
  ⟨1105, 1077, 776⟩,
  ⟨7776, 83, 775⟩,
  ⟨7777, 115, 775⟩,
  ⟨7778, 83, 803⟩,
  ⟨7779, 115, 803⟩,
  ⟨7784, 7778, 775⟩,
  ⟨7785, 7779, 775⟩]
def unidata_pairs1.f : Option (List (S40)) := some uP1
set_option maxRecDepth 100000 in
theorem unidata_pairs1.run (w : World) : Calls Try.prog 38 #[] w fun e w' => e = .returned (.slice (some ⟨w.heap.size, 0, none⟩) uP1.length uP1.length) ∧ w' = w.alloc (.cells (uP1.flatMap cells_p).toArray 40) :=
  lit_calls Try.func38 rfl rfl (fun g => by kernel_rfl) w
theorem unidata_pairs1.calls (r : List (S40)) (w : World) (h : unidata_pairs1.f = some r) :
    Calls Try.prog 38 #[] w fun e w' => ∃ v0_ : Value, e = .returned (v0_) ∧ Kd.R k40 40 w' w.heap.size (fun _ => True) v0_ r ∧ Below w.heap.size w w' := by
  obtain rfl : uP1 = r := Option.some.inj h
  exact cells_p_lit (by decide) (unidata_pairs1.run w)
def rT0 : List S32 := [⟨45, 45, 1, 0, 0, 0, 0, 5, 0, false, 0⟩,
  ⟨46, 46, 1, 0, 0, 0, 0, 6, 0, false, 0⟩,
  ⟨48, 57, 1, 0, 0, 0, 0, 4, 0, false, 0⟩,
  ⟨65, 90, 3, 32, 0, 0, 2, 1, 0, false, 0⟩,
  ⟨95, 95, 1, 0, 0, 0, 0, 0, 0, false, 0⟩,
  ⟨97, 122, 1, 0, 0, 0, 2, 1, 0, false, 0⟩,
  ⟨170, 170, 3, 0, 97, 0, 2, 1, 0, false, 0⟩,
  ⟨173, 173, 2, 0, 0, 0, 0, 9, 0, false, 0⟩,
  ⟨178, 179, 3, -128, 0, 0, 0, 4, 0, false, 0⟩,
  ⟨185, 185, 3, 0, 49, 0, 0, 4, 0, false, 0⟩,
  ⟨186, 186, 3, 0, 111, 0, 2, 1, 0, false, 0⟩,
  ⟨192, 214, 3, 32, 0, 0, 2, 1, 0, false, 0⟩,
  ⟨216, 222, 3, 32, 0, 0, 2, 1, 0, false, 0⟩,
  ⟨223, 223, 4, 0, 0, 0, 2, 1, 0, false, 0⟩,
  ⟨224, 246, 1, 0, 0, 0, 2, 1, 0, false, 0⟩,
  ⟨248, 255, 1, 0, 0, 0, 2, 1, 0, false, 0⟩,
  ⟨376, 376, 3, 0, 255, 0, 2, 1, 0, false, 0⟩,
  ⟨469, 469, 3, 0, 470, 0, 2, 1, 0, false, 0⟩,
  ⟨470, 470, 1, 0, 0, 0, 2, 1, 0, false, 0⟩,
  ⟨768, 772, 1, 0, 0, 0, 1, 8, 230, true, 4⟩,
  ⟨774, 776, 1, 0, 0, 0, 1, 8, 230, true, 4⟩,
  ⟨778, 778, 1, 0, 0, 0, 1, 8, 230, true, 4⟩,
  ⟨803, 803, 1, 0, 0, 0, 1, 8, 220, true, 4⟩,
  ⟨807, 808, 1, 0, 0, 0, 1, 8, 202, true, 4⟩,
  ⟨902, 902, 3, 0, 940, 0, 3, 1, 0, false, 0⟩,
  ⟨904, 906, 3, 37, 0, 0, 3, 1, 0, false, 0⟩,
  ⟨908, 908, 3, 0, 972, 0, 3, 1, 0, false, 0⟩,
  ⟨910, 911, 3, 63, 0, 0, 3, 1, 0, false, 0⟩,
  ⟨913, 929, 3, 32, 0, 0, 3, 1, 0, false, 0⟩,
  ⟨931, 937, 3, 32, 0, 0, 3, 1, 0, false, 0⟩]
def portcullisref03_rows0.f : Option (List (S32)) := some rT0
set_option maxRecDepth 100000 in
theorem portcullisref03_rows0.run (w : World) : Calls Try.prog 40 #[] w fun e w' => e = .returned (.slice (some ⟨w.heap.size, 0, none⟩) rT0.length rT0.length) ∧ w' = w.alloc (.cells (rT0.flatMap cells_r).toArray 32) :=
  lit_calls Try.func40 rfl rfl (fun g => by kernel_rfl) w
theorem portcullisref03_rows0.calls (r : List (S32)) (w : World) (h : portcullisref03_rows0.f = some r) :
    Calls Try.prog 40 #[] w fun e w' => ∃ v0_ : Value, e = .returned (v0_) ∧ Kd.R k32 32 w' w.heap.size (fun _ => True) v0_ r ∧ Below w.heap.size w w' := by
  obtain rfl : rT0 = r := Option.some.inj h
  exact cells_r_lit (by decide) (portcullisref03_rows0.run w)
def rT1 : List S32 := [⟨940, 943, 1, 0, 0, 0, 3, 1, 0, false, 0⟩,
  ⟨945, 961, 1, 0, 0, 0, 3, 1, 0, false, 0⟩,
  ⟨962, 962, 4, 0, 0, 0, 3, 1, 0, false, 0⟩,
  ⟨963, 969, 1, 0, 0, 0, 3, 1, 0, false, 0⟩,
  ⟨972, 974, 1, 0, 0, 0, 3, 1, 0, false, 0⟩,
  ⟨1025, 1025, 3, 0, 1105, 0, 4, 1, 0, false, 0⟩,
  ⟨1029, 1030, 3, 80, 0, 0, 4, 1, 0, false, 0⟩,
  ⟨1032, 1032, 3, 0, 1112, 0, 4, 1, 0, false, 0⟩,
  ⟨1040, 1071, 3, 32, 0, 0, 4, 1, 0, false, 0⟩,
  ⟨1072, 1103, 1, 0, 0, 0, 4, 1, 0, false, 0⟩,
  ⟨1105, 1105, 1, 0, 0, 0, 4, 1, 0, false, 0⟩,
  ⟨1109, 1110, 1, 0, 0, 0, 4, 1, 0, false, 0⟩,
  ⟨1112, 1112, 1, 0, 0, 0, 4, 1, 0, false, 0⟩,
  ⟨1488, 1514, 1, 0, 0, 0, 5, 2, 0, false, 0⟩,
  ⟨1575, 1575, 1, 0, 0, 0, 6, 3, 0, false, 2⟩,
  ⟨1576, 1576, 1, 0, 0, 0, 6, 3, 0, false, 3⟩,
  ⟨1578, 1578, 1, 0, 0, 0, 6, 3, 0, false, 3⟩,
  ⟨1583, 1583, 1, 0, 0, 0, 6, 3, 0, false, 2⟩,
  ⟨1587, 1587, 1, 0, 0, 0, 6, 3, 0, false, 3⟩,
  ⟨1604, 1606, 1, 0, 0, 0, 6, 3, 0, false, 3⟩,
  ⟨1608, 1608, 1, 0, 0, 0, 6, 3, 0, false, 2⟩,
  ⟨1610, 1610, 1, 0, 0, 0, 6, 3, 0, false, 3⟩,
  ⟨1611, 1611, 1, 0, 0, 0, 1, 8, 27, true, 4⟩,
  ⟨1632, 1641, 1, 0, 0, 0, 6, 7, 0, false, 0⟩,
  ⟨1776, 1785, 1, 0, 0, 0, 6, 4, 0, false, 0⟩,
  ⟨2325, 2361, 1, 0, 0, 0, 7, 1, 0, false, 0⟩,
  ⟨2367, 2367, 1, 0, 0, 0, 7, 1, 0, true, 0⟩,
  ⟨2381, 2381, 1, 0, 0, 0, 7, 8, 9, true, 4⟩,
  ⟨7776, 7776, 3, 0, 7777, 0, 2, 1, 0, false, 0⟩,
  ⟨7777, 7777, 1, 0, 0, 0, 2, 1, 0, false, 0⟩]
def portcullisref03_rows1.f : Option (List (S32)) := some rT1
set_option maxRecDepth 100000 in
theorem portcullisref03_rows1.run (w : World) : Calls Try.prog 41 #[] w fun e w' => e = .returned (.slice (some ⟨w.heap.size, 0, none⟩) rT1.length rT1.length) ∧ w' = w.alloc (.cells (rT1.flatMap cells_r).toArray 32) :=
  lit_calls Try.func41 rfl rfl (fun g => by kernel_rfl) w
theorem portcullisref03_rows1.calls (r : List (S32)) (w : World) (h : portcullisref03_rows1.f = some r) :
    Calls Try.prog 41 #[] w fun e w' => ∃ v0_ : Value, e = .returned (v0_) ∧ Kd.R k32 32 w' w.heap.size (fun _ => True) v0_ r ∧ Below w.heap.size w w' := by
  obtain rfl : rT1 = r := Option.some.inj h
  exact cells_r_lit (by decide) (portcullisref03_rows1.run w)
def rT2 : List S32 := [⟨7778, 7778, 3, 0, 7779, 0, 2, 1, 0, false, 0⟩,
  ⟨7779, 7779, 1, 0, 0, 0, 2, 1, 0, false, 0⟩,
  ⟨7784, 7784, 3, 0, 7785, 0, 2, 1, 0, false, 0⟩,
  ⟨7785, 7785, 1, 0, 0, 0, 2, 1, 0, false, 0⟩,
  ⟨7838, 7838, 3, 0, 115, 115, 2, 1, 0, false, 0⟩,
  ⟨8204, 8204, 4, 0, 0, 0, 1, 9, 0, false, 0⟩,
  ⟨8205, 8205, 4, 0, 0, 0, 1, 9, 0, false, 5⟩,
  ⟨8486, 8486, 3, 0, 969, 0, 3, 1, 0, false, 0⟩,
  ⟨8490, 8490, 3, 0, 107, 0, 2, 1, 0, false, 0⟩,
  ⟨8491, 8491, 3, 0, 229, 0, 2, 1, 0, false, 0⟩,
  ⟨9731, 9731, 1, 0, 0, 0, 0, 0, 0, false, 0⟩,
  ⟨12290, 12290, 3, 0, 46, 0, 0, 0, 0, false, 0⟩,
  ⟨12353, 12438, 1, 0, 0, 0, 8, 1, 0, false, 0⟩,
  ⟨12449, 12538, 1, 0, 0, 0, 9, 1, 0, false, 0⟩,
  ⟨12540, 12540, 1, 0, 0, 0, 0, 1, 0, false, 0⟩,
  ⟨19968, 20108, 1, 0, 0, 0, 10, 1, 0, false, 0⟩,
  ⟨64257, 64257, 3, 0, 102, 105, 2, 1, 0, false, 0⟩,
  ⟨65285, 65285, 3, 0, 37, 0, 0, 0, 0, false, 0⟩,
  ⟨65293, 65293, 3, 0, 45, 0, 0, 5, 0, false, 0⟩,
  ⟨65294, 65294, 3, 0, 46, 0, 0, 6, 0, false, 0⟩,
  ⟨65295, 65295, 3, 0, 47, 0, 0, 6, 0, false, 0⟩,
  ⟨65296, 65305, 3, -65248, 0, 0, 0, 4, 0, false, 0⟩,
  ⟨65313, 65338, 3, -65216, 0, 0, 2, 1, 0, false, 0⟩,
  ⟨65345, 65370, 3, -65248, 0, 0, 2, 1, 0, false, 0⟩,
  ⟨65377, 65377, 3, 0, 46, 0, 0, 0, 0, false, 0⟩,
  ⟨66560, 66599, 3, 40, 0, 0, 11, 1, 0, false, 0⟩,
  ⟨66600, 66639, 1, 0, 0, 0, 11, 1, 0, false, 0⟩,
  ⟨128512, 128512, 1, 0, 0, 0, 0, 0, 0, false, 0⟩]
def portcullisref03_rows2.f : Option (List (S32)) := some rT2
set_option maxRecDepth 100000 in
theorem portcullisref03_rows2.run (w : World) : Calls Try.prog 42 #[] w fun e w' => e = .returned (.slice (some ⟨w.heap.size, 0, none⟩) rT2.length rT2.length) ∧ w' = w.alloc (.cells (rT2.flatMap cells_r).toArray 32) :=
  lit_calls Try.func42 rfl rfl (fun g => by kernel_rfl) w
theorem portcullisref03_rows2.calls (r : List (S32)) (w : World) (h : portcullisref03_rows2.f = some r) :
    Calls Try.prog 42 #[] w fun e w' => ∃ v0_ : Value, e = .returned (v0_) ∧ Kd.R k32 32 w' w.heap.size (fun _ => True) v0_ r ∧ Below w.heap.size w w' := by
  obtain rfl : rT2 = r := Option.some.inj h
  exact cells_r_lit (by decide) (portcullisref03_rows2.run w)
def rP0 : List S48 := [⟨192, 65, 768⟩,
  ⟨193, 65, 769⟩,
  ⟨194, 65, 770⟩,
  ⟨195, 65, 771⟩,
  ⟨196, 65, 776⟩,
  ⟨197, 65, 778⟩,
  ⟨199, 67, 807⟩,
  ⟨200, 69, 768⟩,
  ⟨201, 69, 769⟩,
  ⟨202, 69, 770⟩,
  ⟨203, 69, 776⟩,
  ⟨204, 73, 768⟩,
  ⟨205, 73, 769⟩,
  ⟨206, 73, 770⟩,
  ⟨207, 73, 776⟩,
  ⟨209, 78, 771⟩,
  ⟨210, 79, 768⟩,
  ⟨211, 79, 769⟩,
  ⟨212, 79, 770⟩,
  ⟨213, 79, 771⟩,
  ⟨214, 79, 776⟩,
  ⟨217, 85, 768⟩,
  ⟨218, 85, 769⟩,
  ⟨219, 85, 770⟩,
  ⟨220, 85, 776⟩,
  ⟨221, 89, 769⟩,
  ⟨224, 97, 768⟩,
  ⟨225, 97, 769⟩,
  ⟨226, 97, 770⟩,
  ⟨227, 97, 771⟩,
  ⟨228, 97, 776⟩,
  ⟨229, 97, 778⟩,
  ⟨231, 99, 807⟩,
  ⟨232, 101, 768⟩,
  ⟨233, 101, 769⟩,
  ⟨234, 101, 770⟩,
  ⟨235, 101, 776⟩,
  ⟨236, 105, 768⟩,
  ⟨237, 105, 769⟩,
  ⟨238, 105, 770⟩]
def portcullisref03_pairs0.f : Option (List (S48)) := some rP0
set_option maxRecDepth 100000 in
theorem portcullisref03_pairs0.run (w : World) : Calls Try.prog 43 #[] w fun e w' => e = .returned (.slice (some ⟨w.heap.size, 0, none⟩) rP0.length rP0.length) ∧ w' = w.alloc (.cells (rP0.flatMap cells_a).toArray 48) :=
  lit_calls Try.func43 rfl rfl (fun g => by kernel_rfl) w
theorem portcullisref03_pairs0.calls (r : List (S48)) (w : World) (h : portcullisref03_pairs0.f = some r) :
    Calls Try.prog 43 #[] w fun e w' => ∃ v0_ : Value, e = .returned (v0_) ∧ Kd.R k48 48 w' w.heap.size (fun _ => True) v0_ r ∧ Below w.heap.size w w' := by
  obtain rfl : rP0 = r := Option.some.inj h
  exact cells_a_lit (by decide) (portcullisref03_pairs0.run w)
def rP1 : List S48 := [⟨239, 105, 776⟩,
  ⟨241, 110, 771⟩,
  ⟨242, 111, 768⟩,
  ⟨243, 111, 769⟩,
  ⟨244, 111, 770⟩,
  ⟨245, 111, 771⟩,
  ⟨246, 111, 776⟩,
  ⟨249, 117, 768⟩,
  ⟨250, 117, 769⟩,
  ⟨251, 117, 770⟩,
  ⟨252, 117, 776⟩,
  ⟨253, 121, 769⟩,
  ⟨255, 121, 776⟩,
  ⟨376, 89, 776⟩,
  ⟨469, 220, 772⟩,
  ⟨470, 252, 772⟩,
  ⟨902, 913, 769⟩,
  ⟨904, 917, 769⟩,
  ⟨905, 919, 769⟩,
  ⟨906, 921, 769⟩,
  ⟨908, 927, 769⟩,
  ⟨910, 933, 769⟩,
  ⟨911, 937, 769⟩,
  ⟨940, 945, 769⟩,
  ⟨941, 949, 769⟩,
  ⟨942, 951, 769⟩,
  ⟨943, 953, 769⟩,
  ⟨972, 959, 769⟩,
  ⟨973, 965, 769⟩,
  ⟨974, 969, 769⟩,
  ⟨1025, 1045, 776⟩,
  ⟨1049, 1048, 774⟩,
  ⟨1081, 1080, 774⟩,
  ⟨1105, 1077, 776⟩,
  ⟨7776, 83, 775⟩,
  ⟨7777, 115, 775⟩,
  ⟨7778, 83, 803⟩,
  ⟨7779, 115, 803⟩,
  ⟨7784, 7778, 775⟩,
  ⟨7785, 7779, 775⟩]
def portcullisref03_pairs1.f : Option (List (S48)) := some rP1
set_option maxRecDepth 100000 in
theorem portcullisref03_pairs1.run (w : World) : Calls Try.prog 44 #[] w fun e w' => e = .returned (.slice (some ⟨w.heap.size, 0, none⟩) rP1.length rP1.length) ∧ w' = w.alloc (.cells (rP1.flatMap cells_a).toArray 48) :=
  lit_calls Try.func44 rfl rfl (fun g => by kernel_rfl) w
theorem portcullisref03_pairs1.calls (r : List (S48)) (w : World) (h : portcullisref03_pairs1.f = some r) :
    Calls Try.prog 44 #[] w fun e w' => ∃ v0_ : Value, e = .returned (v0_) ∧ Kd.R k48 48 w' w.heap.size (fun _ => True) v0_ r ∧ Below w.heap.size w w' := by
  obtain rfl : rP1 = r := Option.some.inj h
  exact cells_a_lit (by decide) (portcullisref03_pairs1.run w)
end Go.Proofs.Ytkdhmdmmdbmeaaa.Pr
