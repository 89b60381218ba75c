import Derived.Test.YtkdhmdmmdbmeaaaKtab
import Derived.Test.YtkdhmdmmdbmeaaaKrow
namespace Go.Proofs.Ytkdhmdmmdbmeaaa.Pr
open Go.RowKit Go.Proofs.YtkdhmdmmdbmeaaaW.PrintWords Go.Proofs.YtkdhmdmmdbmeaaaW.PrintLast Go.Proofs.YtkdhmdmmdbmeaaaW.PrintMore
set_option linter.unusedVariables false
set_option linter.unusedSimpArgs false

theorem info_u : (Try.prog.info? 37).map (·.size) = some 8 := by kernel_rfl
/-- What the search's closure answers. -/
def cmpU (x : S37) (r : Int) : Int := if x.f1 < r then -1 else if r < x.f0 then 1 else 0

set_option maxHeartbeats 400000 in
theorem cmp_calls (x : S37) (r : Int) (w : World) :
    Calls Try.prog 36 #[.agg (cells_u x).toArray, .int .i32 r] w fun e w' => e = .returned (.int .i64 (cmpU x r)) ∧ Below w.heap.size w w' := by
  unfold cells_u cmpU
  by_cases h1 : x.f1 < r
  · rw [if_pos h1]
    go_enter Try.func36, Try.ntmps36
    go_wp2
    go_ret
    exact ⟨rfl, (Below.refl _ _).alloc (Nat.le_refl _) _⟩
  · rw [if_neg h1]
    by_cases h2 : r < x.f0
    · rw [if_pos h2]
      go_enter Try.func36, Try.ntmps36
      go_wp2
      go_ret
      exact ⟨rfl, (Below.refl _ _).alloc (Nat.le_refl _) _⟩
    · rw [if_neg h2]
      go_enter Try.func36, Try.ntmps36
      go_wp2
      go_ret
      exact ⟨rfl, (Below.refl _ _).alloc (Nat.le_refl _) _⟩

/-- Where the search ends. -/
def Ends (T : List S37) (r : Int) (i : Nat) : Prop := i ≤ T.length ∧ (∀ m x, m < i → T[m]? = some x → cmpU x r < 0) ∧ (∀ m x, i ≤ m → T[m]? = some x → 0 ≤ cmpU x r)
def foundU (T : List S37) (r : Int) (i : Nat) : Bool := match T[i]? with | some x => cmpU x r == 0 | none => false
def Mono (T : List S37) (r : Int) : Prop := ∀ (a b : Nat) (x y : S37), a ≤ b → T[a]? = some x → T[b]? = some y → cmpU y r < 0 → cmpU x r < 0
/-- What the search answers: behind a name. -/
def Searched (T : List S37) (r : Int) (w : World) (e : Ending) (w' : World) : Prop := ∃ i : Nat, Ends T r i ∧ e = .returned (.tuple #[.int .i64 i, .bool (foundU T r i)]) ∧ Below w.heap.size w w'

structure SInv (T : List S37) (r : Int) (w wr : World) (a b : Nat) : Prop where
  le : a ≤ b
  top : b ≤ T.length
  lo : ∀ m x, m < a → T[m]? = some x → cmpU x r < 0
  hi : ∀ m x, b ≤ m → T[m]? = some x → 0 ≤ cmpU x r
  bel : Below w.heap.size w wr
theorem SInv.up {T : List S37} {r : Int} {w wr w1 : World} {a b h : Nat} {x : S37} (I : SInv T r w wr a b) (hm : Mono T r) (h2 : h < b) (hx : T[h]? = some x) (hc : cmpU x r < 0) (hb : Below wr.heap.size wr w1) : SInv T r w w1 (h + 1) b :=
  ⟨by omega, I.top, fun m y hmh hy => hm m h y x (by omega) hy hx hc, I.hi, below_then I.bel I.bel.size hb⟩
theorem SInv.down {T : List S37} {r : Int} {w wr w1 : World} {a b h : Nat} {x : S37} (I : SInv T r w wr a b) (hm : Mono T r) (h1 : a ≤ h) (h2 : h < b) (hx : T[h]? = some x) (hc : ¬ cmpU x r < 0) (hb : Below wr.heap.size wr w1) : SInv T r w w1 a h :=
  ⟨h1, by have := I.top; omega, I.lo, fun m y hmh hy => by
    by_cases e : cmpU y r < 0
    · exact absurd (hm h m x y hmh hx hy e) hc
    · omega, below_then I.bel I.bel.size hb⟩
theorem row_size (x : S37) : (Try.prog.info? 37).map (·.size) = some (cells_u x).length := info_u

set_option maxHeartbeats 1000000 in
theorem search_calls (T : List S37) (g c : Nat) (r : Int) (w : World) (hT : RowsAt cells_u 8 w g T) (hg : g < w.heap.size) (hm : Mono T r) (hn : T.length ≤ 1000000) :
    Calls Try.prog 35 #[.slice (some ⟨g, 0, none⟩) T.length c, .int .i32 r, .func (.func 36) #[] #[]] w (Searched T r w) := by
  have HM := Lib.hid hm
  clear hm
  go_enter Try.func35, Try.ntmps35
  go_wp2_with fail
  go_loopw [9, 10] (fun i j wr => ∃ a b : Nat, i = .int .i64 a ∧ j = .int .i64 b ∧ SInv T r w wr a b) (fun i j _ => (intOf j).toNat - (intOf i).toNat)
  case atStart => exact ⟨0, T.length, rfl, rfl, ⟨Nat.zero_le _, Nat.le_refl _, fun m x h => absurd h (Nat.not_lt_zero _), fun m x h hx => by rw [List.getElem?_eq_none h] at hx; exact absurd hx (by simp), Below.refl _ _⟩⟩
  case round =>
    obtain ⟨a, b, rfl, rfl, I⟩ := hrel
    have h1 := I.le
    have h2 := I.top
    by_cases hlt : a < b
    · obtain ⟨x, hx⟩ : ∃ x, T[(a + b) / 2]? = some x := ⟨_, List.getElem?_eq_getElem (by omega)⟩
      have hr : wr.rangeAt g ((a + b) / 2 * 8) (cells_u x) := hT.below I.bel hg _ _ hx
      have HX := Lib.hid hx
      have HR := Lib.hid hr
      clear hx hr
      by_cases hc : cmpU x r < 0
      · have J := fun w1 hb => I.up (w1 := w1) HM.out (show (a + b) / 2 < b by omega) HX.out hc hb
        go_wp2_with (first | (with_reducible refine wpList_load_mid rfl 37 _ rfl g (((a + b) / 2) * 8) rfl (cells_u x) _ HR.out Try.underlying37 rfl (row_size x) ?_) | (go_at_call 36; refine (cmp_calls x r _).mono ?_; rintro e w1 ⟨rfl, hb1⟩))
        go_roundw
        case rel => exact ⟨(a + b) / 2 + 1, b, by go_num, rfl, J _ hb1⟩
        case measure => simp [intOf]; omega
      · have J := fun w1 hb => I.down (w1 := w1) HM.out (show a ≤ (a + b) / 2 by omega) (show (a + b) / 2 < b by omega) HX.out hc hb
        have hc' : 0 ≤ cmpU x r := by omega
        clear hc
        go_wp2_with (first | (with_reducible refine wpList_load_mid rfl 37 _ rfl g (((a + b) / 2) * 8) rfl (cells_u x) _ HR.out Try.underlying37 rfl (row_size x) ?_) | (go_at_call 36; refine (cmp_calls x r _).mono ?_; rintro e w1 ⟨rfl, hb1⟩))
        go_roundw
        case rel => exact ⟨a, (a + b) / 2, rfl, by go_num, J _ hb1⟩
        case measure => simp [intOf]; omega
    · obtain rfl : a = b := by omega
      have E : Ends T r a := ⟨h2, I.lo, I.hi⟩
      by_cases ha : a < T.length
      · obtain ⟨x, hx⟩ : ∃ x, T[a]? = some x := ⟨_, List.getElem?_eq_getElem ha⟩
        have hr : wr.rangeAt g (a * 8) (cells_u x) := hT.below I.bel hg _ _ hx
        have hf : foundU T r a = (cmpU x r == 0) := by unfold foundU; rw [hx]
        have HF := Lib.hid hf
        have HR := Lib.hid hr
        have HB := I.bel
        have c0 := hr 0 _ rfl
        have c1 := hr 1 _ rfl
        have c2 := hr 2 _ rfl
        have c3 := hr 3 _ rfl
        have c4 := hr 4 _ rfl
        have c5 := hr 5 _ rfl
        have c6 := hr 6 _ rfl
        have c7 := hr 7 _ rfl
        rw [Nat.add_zero] at c0
        have hd2 : decide (a < T.length) = true := decide_eq_true ha
        have hd1 : decide ((a : Int) < (T.length : Int)) = true := decide_eq_true (by omega)
        clear hx hr hf I
        go_wp2_with (first | (go_at_call 36; refine (cmp_calls x r _).mono ?_; rintro e w1 ⟨rfl, hb1⟩))
        go_ret2
        exact ⟨a, E, by rw [HF.out]; rfl, below_then HB HB.size hb1⟩
      · have hf : foundU T r a = false := by unfold foundU; rw [List.getElem?_eq_none (by omega)]
        have HF := Lib.hid hf
        have HB := I.bel
        clear hf I
        go_wp2_with fail
        go_ret2
        exact ⟨a, E, by rw [HF.out]; rfl, HB⟩

/-! ### find -/
def inU (r : Int) (x : S37) : Bool := decide (x.f0 ≤ r) && decide (r ≤ x.f1)
theorem cmp_zero {x : S37} {r : Int} (h : (cmpU x r == 0) = true) : inU r x = true := by
  unfold cmpU at h
  unfold inU
  by_cases h1 : x.f1 < r
  · rw [if_pos h1] at h; exact absurd h (by decide)
  · rw [if_neg h1] at h
    by_cases h2 : r < x.f0
    · rw [if_pos h2] at h; exact absurd h (by decide)
    · simp; omega
theorem cmp_in {x : S37} {r : Int} (h : inU r x = true) : cmpU x r = 0 := by
  unfold inU at h
  simp at h
  unfold cmpU
  rw [if_neg (by omega), if_neg (by omega)]
/-- A table whose rows rise. -/
def Rises (T : List S37) : Prop := T.Pairwise fun x y => x.f0 ≤ y.f0 ∧ x.f1 ≤ y.f1
theorem Rises.at_ {T : List S37} (h : Rises T) {a b : Nat} {x y : S37} (hab : a ≤ b) (hx : T[a]? = some x) (hy : T[b]? = some y) : x.f0 ≤ y.f0 ∧ x.f1 ≤ y.f1 := by
  rcases Nat.lt_or_eq_of_le hab with hlt | rfl
  · obtain ⟨ha, rfl⟩ := List.getElem?_eq_some_iff.1 hx
    obtain ⟨hb, rfl⟩ := List.getElem?_eq_some_iff.1 hy
    exact List.pairwise_iff_getElem.1 h a b ha hb hlt
  · rw [hx] at hy
    obtain rfl := Option.some.inj hy
    exact ⟨Int.le_refl _, Int.le_refl _⟩
theorem Rises.mono {T : List S37} (h : Rises T) (r : Int) : Mono T r := by
  intro a b x y hab hx hy hc
  have := (h.at_ hab hx hy).2
  unfold cmpU at hc ⊢
  by_cases h1 : y.f1 < r
  · rw [if_pos (show x.f1 < r by omega)]; decide
  · rw [if_neg h1] at hc
    split at hc
    · exact absurd hc (by decide)
    · exact absurd hc (by decide)
theorem find_first {α : Type} {p : α → Bool} : ∀ {T : List α} {i : Nat} {x : α}, T[i]? = some x → p x = true → (∀ m y, m < i → T[m]? = some y → p y = false) → T.find? p = some x
  | [], i, x, h, _, _ => by simp at h
  | y :: T, 0, x, h, hp, _ => by
    obtain rfl : y = x := by simpa using h
    simp [List.find?_cons, hp]
  | y :: T, i + 1, x, h, hp, hm => by
    have h0 := hm 0 y (by omega) rfl
    simp only [List.find?_cons, h0]
    exact find_first (by simpa using h) hp (fun m z hmi hz => hm (m + 1) z (by omega) (by simpa using hz))
theorem find_nowhere {α : Type} {p : α → Bool} {T : List α} (h : ∀ (m : Nat) (x : α), T[m]? = some x → p x = false) : T.find? p = none := by
  rw [List.find?_eq_none]
  intro x hx
  obtain ⟨m, hm⟩ := List.mem_iff_getElem?.1 hx
  rw [h m x hm]
  decide
theorem Ends.yes {T : List S37} {r : Int} {i : Nat} (h : Ends T r i) (hf : foundU T r i = true) : ∃ x, T[i]? = some x ∧ T.find? (inU r) = some x := by
  unfold foundU at hf
  cases hx : T[i]? with
  | none => rw [hx] at hf; exact absurd hf Bool.false_ne_true
  | some x =>
    rw [hx] at hf
    refine ⟨x, rfl, find_first hx (cmp_zero hf) fun m y hm hy => ?_⟩
    have := h.2.1 m y hm hy
    cases hb : inU r y with
    | false => rfl
    | true => have := cmp_in hb; omega
theorem Ends.no {T : List S37} {r : Int} {i : Nat} (hT : Rises T) (h : Ends T r i) (hf : foundU T r i = false) : T.find? (inU r) = none := by
  refine find_nowhere fun m y hy => ?_
  cases hb : inU r y with
  | false => rfl
  | true =>
    exfalso
    have h0 := cmp_in hb
    rcases Nat.lt_or_ge m i with hm | hm
    · have := h.2.1 m y hm hy; omega
    · have hi : i < T.length := by have := (List.getElem?_eq_some_iff.1 hy).1; omega
      have hx : T[i]? = some T[i] := List.getElem?_eq_getElem hi
      have hs := hT.at_ hm hx hy
      have hc := h.2.2 i T[i] (Nat.le_refl _) hx
      unfold foundU at hf
      rw [hx] at hf
      simp only [beq_eq_false_iff_ne] at hf
      unfold inU at hb
      simp at hb
      unfold cmpU at hc hf
      split at hc
      · exact absurd hc (by decide)
      · rename_i h1
        rw [if_neg h1] at hf
        split at hf
        · omega
        · exact hf rfl
theorem rises0 : Rises uT0 := by unfold Rises; decide +kernel
theorem rises1 : Rises uT1 := by unfold Rises; decide +kernel
theorem rises2 : Rises uT2 := by unfold Rises; decide +kernel
/-- The line of a code point. -/
def findU (r : Int) : S37 := ((uT0 ++ uT1 ++ uT2).find? (inU r)).getD z37
def unidata_find.f (r : Int) : Option (Int × Int × Int × Int × Int × Int × Int × Bool) := some ((findU r).f0, (findU r).f1, (findU r).f2, (findU r).f3, (findU r).f4, (findU r).f5, (findU r).f6, (findU r).f7)
theorem findU0 {r : Int} {x : S37} (h : uT0.find? (inU r) = some x) : findU r = x := by unfold findU; rw [List.find?_append, List.find?_append, h]; rfl
theorem findU1 {r : Int} {x : S37} (h0 : uT0.find? (inU r) = none) (h : uT1.find? (inU r) = some x) : findU r = x := by unfold findU; rw [List.find?_append, List.find?_append, h0, h]; rfl
theorem findU2 {r : Int} {x : S37} (h0 : uT0.find? (inU r) = none) (h1 : uT1.find? (inU r) = none) (h : uT2.find? (inU r) = some x) : findU r = x := by unfold findU; rw [List.find?_append, List.find?_append, h0, h1, h]; rfl
theorem findU3 {r : Int} (h0 : uT0.find? (inU r) = none) (h1 : uT1.find? (inU r) = none) (h : uT2.find? (inU r) = none) : findU r = z37 := by unfold findU; rw [List.find?_append, List.find?_append, h0, h1, h]; rfl

structure FW (w W : World) : Prop where
  r0 : RowsAt cells_u 8 W (w.heap.size + 1) uT0
  r1 : RowsAt cells_u 8 W (w.heap.size + 1 + 1) uT1
  r2 : RowsAt cells_u 8 W (w.heap.size + 1 + 1 + 1) uT2
  th : W.there w.heap.size 0 8
  sz : w.heap.size + 1 + 1 + 1 < W.heap.size
  bel : Below w.heap.size w W
theorem FW.keep {w W W1 : World} (h : FW w W) (hb : Below W.heap.size W W1) : FW w W1 :=
  ⟨h.r0.below hb (by have := h.sz; omega), h.r1.below hb (by have := h.sz; omega), h.r2.below hb h.sz, there_below h.th hb (by have := h.sz; omega), Nat.lt_of_lt_of_le h.sz hb.size, below_then h.bel (by have := h.sz; omega) hb⟩
theorem len0 : uT0.length = 30 := rfl
theorem len1 : uT1.length = 30 := rfl
theorem len2 : uT2.length = 28 := rfl
theorem FW.start (w : World) (c : Array Value) (hc : c.size = 8) : FW w ((((w.alloc (.cells c 37)).alloc (.cells (uT0.flatMap cells_u).toArray 37)).alloc (.cells (uT1.flatMap cells_u).toArray 37)).alloc (.cells (uT2.flatMap cells_u).toArray 37)) := by
  have h0 := RowsAt.new (f := cells_u) (n := 8) (fun _ => rfl) (w.alloc (.cells c 37)) uT0 37
  have h1 := RowsAt.new (f := cells_u) (n := 8) (fun _ => rfl) ((w.alloc (.cells c 37)).alloc (.cells (uT0.flatMap cells_u).toArray 37)) uT1 37
  have h2 := RowsAt.new (f := cells_u) (n := 8) (fun _ => rfl) (((w.alloc (.cells c 37)).alloc (.cells (uT0.flatMap cells_u).toArray 37)).alloc (.cells (uT1.flatMap cells_u).toArray 37)) uT2 37
  simp only [World.size_alloc] at h0 h1 h2
  have ht := there_new w c 37
  rw [hc] at ht
  exact ⟨(h0.later _).later _, h1.later _, h2, World.there_alloc (World.there_alloc (World.there_alloc ht _) _) _, by simp, ((((Below.refl _ _).alloc (Nat.le_refl _) _).alloc (by simp) _).alloc (by simp; omega) _).alloc (by simp; omega) _⟩
theorem index3 (x0 x1 x2 : Value) : (∀ w, (Instr.index 51 (.agg #[x0, x1, x2]) (.int .i64 0)).run Try.prog w = .ok x0 w) ∧ (∀ w, (Instr.index 51 (.agg #[x0, x1, x2]) (.int .i64 1)).run Try.prog w = .ok x1 w) ∧ (∀ w, (Instr.index 51 (.agg #[x0, x1, x2]) (.int .i64 2)).run Try.prog w = .ok x2 w) :=
  ⟨fun _ => by kernel_rfl, fun _ => by kernel_rfl, fun _ => by kernel_rfl⟩

def SYes (T : List S37) (x : S37) (w : World) (e : Ending) (w' : World) : Prop := ∃ i : Nat, T[i]? = some x ∧ e = .returned (.tuple #[.int .i64 i, .bool true]) ∧ Below w.heap.size w w'
def SNo (w : World) (e : Ending) (w' : World) : Prop := ∃ i : Nat, e = .returned (.tuple #[.int .i64 i, .bool false]) ∧ Below w.heap.size w w'
theorem search_yes {T : List S37} {r : Int} {x : S37} (hR : Rises T) (hx : T.find? (inU r) = some x) (g c : Nat) (w : World) (hT : RowsAt cells_u 8 w g T) (hg : g < w.heap.size) (hn : T.length ≤ 1000000) :
    Calls Try.prog 35 #[.slice (some ⟨g, 0, none⟩) T.length c, .int .i32 r, .func (.func 36) #[] #[]] w (SYes T x w) :=
  (search_calls T g c r w hT hg (hR.mono r) hn).mono fun e w' ⟨i, hE, he, hb⟩ => by
    cases hf : foundU T r i with
    | true =>
      obtain ⟨y, hy, hy2⟩ := hE.yes hf
      rw [hx] at hy2
      obtain rfl := Option.some.inj hy2
      rw [hf] at he
      exact ⟨i, hy, he, hb⟩
    | false => rw [hE.no hR hf] at hx; exact absurd hx (by simp)
theorem search_no {T : List S37} {r : Int} (hR : Rises T) (hx : T.find? (inU r) = none) (g c : Nat) (w : World) (hT : RowsAt cells_u 8 w g T) (hg : g < w.heap.size) (hn : T.length ≤ 1000000) :
    Calls Try.prog 35 #[.slice (some ⟨g, 0, none⟩) T.length c, .int .i32 r, .func (.func 36) #[] #[]] w (SNo w) :=
  (search_calls T g c r w hT hg (hR.mono r) hn).mono fun e w' ⟨i, hE, he, hb⟩ => by
    cases hf : foundU T r i with
    | true =>
      obtain ⟨y, hy, hy2⟩ := hE.yes hf
      rw [hx] at hy2
      exact absurd hy2 (by simp)
    | false => rw [hf] at he; exact ⟨i, he, hb⟩
theorem row_size_a (x : S37) : (Try.prog.info? 37).map (·.size) = some (cells_u x).toArray.size := info_u
theorem th_u {W : World} {g : Nat} (h : W.there g 0 8) (x : S37) : W.there g 0 (cells_u x).toArray.size := h
theorem th_z {W : World} {g : Nat} (h : W.there g 0 8) : W.there g 0 (#[.int .i32 0, .int .i32 0, .int .u8 0, .int .u8 0, .int .u8 0, .int .u8 0, .int .u8 0, .bool false] : Array Value).size := h
theorem size_z : (Try.prog.info? 37).map (·.size) = some (#[.int .i32 0, .int .i32 0, .int .u8 0, .int .u8 0, .int .u8 0, .int .u8 0, .int .u8 0, .bool false] : Array Value).size := info_u
theorem one_z : (#[.int .i32 0, .int .i32 0, .int .u8 0, .int .u8 0, .int .u8 0, .int .u8 0, .int .u8 0, .bool false] : Array Value).all (·.oneCell') = true := by simp [Value.oneCell']
theorem row_one (x : S37) : (cells_u x).toArray.all (·.oneCell') = true := by simp [cells_u, Value.oneCell']

set_option maxHeartbeats 2000000 in
theorem find_0 (r : Int) (w : World) {x : S37} (h0 : uT0.find? (inU r) = some x) :
    Calls Try.prog 26 #[.int .i32 r] w fun e w' => e = .returned (.agg (cells_u x).toArray) ∧ Below w.heap.size w w' := by
  have H0 := Lib.hid h0
  clear h0
  obtain ⟨i0, i1, i2⟩ := index3 (.slice (some ⟨w.heap.size + 1, 0, none⟩) uT0.length uT0.length) (.slice (some ⟨w.heap.size + 1 + 1, 0, none⟩) uT1.length uT1.length) (.slice (some ⟨w.heap.size + 1 + 1 + 1, 0, none⟩) uT2.length uT2.length)
  go_enter Try.func26, Try.ntmps26
  go_wp2_with (first | (go_at_call 32; refine (unidata_rows0.run _).mono ?_; rintro e w1 ⟨rfl, rfl⟩) | (go_at_call 33; refine (unidata_rows1.run _).mono ?_; rintro e w1 ⟨rfl, rfl⟩) | (go_at_call 34; refine (unidata_rows2.run _).mono ?_; rintro e w1 ⟨rfl, rfl⟩))
  have hW := FW.start w #[.int .i32 0, .int .i32 0, .int .u8 0, .int .u8 0, .int .u8 0, .int .u8 0, .int .u8 0, .bool false] rfl
  generalize World.alloc (World.alloc (World.alloc (World.alloc w _) _) _) _ = W at hW ⊢
  refine wp_loop_rounds 4 ?_
  rw [rounds_succ]
  go_wp2_with (first | (go_at_call 35; refine (search_yes rises0 H0.out (w.heap.size + 1) _ _ hW.r0 (by have := hW.sz; omega) (by decide)).mono ?_; rintro e w2 ⟨i, hx, rfl, hb0⟩; have hW9 := hW.keep hb0; have hr := hW9.r0 i x hx; have hi1 := (List.getElem?_eq_some_iff.1 hx).1; have HX := Lib.hid hx; clear hx) | (with_reducible refine wpList_load_mid rfl 37 _ rfl (w.heap.size + 1) (i * 8) rfl (cells_u x) _ hr Try.underlying37 rfl (row_size x) ?_) | (with_reducible refine wpList_store_mid rfl 37 _ _ rfl w.heap.size 0 (cells_u x).toArray rfl rfl (th_u hW9.th x) (row_size_a x) (row_one x) ?_))
  refine bodyPost_ret (v := .agg (cells_u x).toArray) (results_cell_mid (g := w.heap.size) rfl _ _ (cells_u x) _ (by simp [Act.put]) (World.rangeAt_setCells_same _ _ _ _ (th_u hW9.th x)) Try.underlying37 rfl (row_size x)) rfl ⟨rfl, ?_⟩
  exact below_cells (Nat.le_refl _) _ _ hW9.bel
set_option maxHeartbeats 2000000 in
theorem find_1 (r : Int) (w : World) {x : S37} (h0 : uT0.find? (inU r) = none) (h1 : uT1.find? (inU r) = some x) :
    Calls Try.prog 26 #[.int .i32 r] w fun e w' => e = .returned (.agg (cells_u x).toArray) ∧ Below w.heap.size w w' := by
  have H0 := Lib.hid h0
  have H1 := Lib.hid h1
  clear h0 h1
  obtain ⟨i0, i1, i2⟩ := index3 (.slice (some ⟨w.heap.size + 1, 0, none⟩) uT0.length uT0.length) (.slice (some ⟨w.heap.size + 1 + 1, 0, none⟩) uT1.length uT1.length) (.slice (some ⟨w.heap.size + 1 + 1 + 1, 0, none⟩) uT2.length uT2.length)
  go_enter Try.func26, Try.ntmps26
  go_wp2_with (first | (go_at_call 32; refine (unidata_rows0.run _).mono ?_; rintro e w1 ⟨rfl, rfl⟩) | (go_at_call 33; refine (unidata_rows1.run _).mono ?_; rintro e w1 ⟨rfl, rfl⟩) | (go_at_call 34; refine (unidata_rows2.run _).mono ?_; rintro e w1 ⟨rfl, rfl⟩))
  have hW := FW.start w #[.int .i32 0, .int .i32 0, .int .u8 0, .int .u8 0, .int .u8 0, .int .u8 0, .int .u8 0, .bool false] rfl
  generalize World.alloc (World.alloc (World.alloc (World.alloc w _) _) _) _ = W at hW ⊢
  refine wp_loop_rounds 4 ?_
  rw [rounds_succ]
  go_wp2_with (first | (go_at_call 35; refine (search_no rises0 H0.out (w.heap.size + 1) _ _ hW.r0 (by have := hW.sz; omega) (by decide)).mono ?_; rintro e w2 ⟨i, rfl, hb0⟩))
  have hW1 := hW.keep hb0
  rw [rounds_succ]
  go_wp2_with (first | (go_at_call 35; refine (search_yes rises1 H1.out (w.heap.size + 1 + 1) _ _ hW1.r1 (by have := hW1.sz; omega) (by decide)).mono ?_; rintro e w3 ⟨i, hx, rfl, hb1⟩; have hW9 := hW1.keep hb1; have hr := hW9.r1 i x hx; have hi1 := (List.getElem?_eq_some_iff.1 hx).1; have HX := Lib.hid hx; clear hx) | (with_reducible refine wpList_load_mid rfl 37 _ rfl (w.heap.size + 1 + 1) (i * 8) rfl (cells_u x) _ hr Try.underlying37 rfl (row_size x) ?_) | (with_reducible refine wpList_store_mid rfl 37 _ _ rfl w.heap.size 0 (cells_u x).toArray rfl rfl (th_u hW9.th x) (row_size_a x) (row_one x) ?_))
  refine bodyPost_ret (v := .agg (cells_u x).toArray) (results_cell_mid (g := w.heap.size) rfl _ _ (cells_u x) _ (by simp [Act.put]) (World.rangeAt_setCells_same _ _ _ _ (th_u hW9.th x)) Try.underlying37 rfl (row_size x)) rfl ⟨rfl, ?_⟩
  exact below_cells (Nat.le_refl _) _ _ hW9.bel
set_option maxHeartbeats 2000000 in
theorem find_2 (r : Int) (w : World) {x : S37} (h0 : uT0.find? (inU r) = none) (h1 : uT1.find? (inU r) = none) (h2 : uT2.find? (inU r) = some x) :
    Calls Try.prog 26 #[.int .i32 r] w fun e w' => e = .returned (.agg (cells_u x).toArray) ∧ Below w.heap.size w w' := by
  have H0 := Lib.hid h0
  have H1 := Lib.hid h1
  have H2 := Lib.hid h2
  clear h0 h1 h2
  obtain ⟨i0, i1, i2⟩ := index3 (.slice (some ⟨w.heap.size + 1, 0, none⟩) uT0.length uT0.length) (.slice (some ⟨w.heap.size + 1 + 1, 0, none⟩) uT1.length uT1.length) (.slice (some ⟨w.heap.size + 1 + 1 + 1, 0, none⟩) uT2.length uT2.length)
  go_enter Try.func26, Try.ntmps26
  go_wp2_with (first | (go_at_call 32; refine (unidata_rows0.run _).mono ?_; rintro e w1 ⟨rfl, rfl⟩) | (go_at_call 33; refine (unidata_rows1.run _).mono ?_; rintro e w1 ⟨rfl, rfl⟩) | (go_at_call 34; refine (unidata_rows2.run _).mono ?_; rintro e w1 ⟨rfl, rfl⟩))
  have hW := FW.start w #[.int .i32 0, .int .i32 0, .int .u8 0, .int .u8 0, .int .u8 0, .int .u8 0, .int .u8 0, .bool false] rfl
  generalize World.alloc (World.alloc (World.alloc (World.alloc w _) _) _) _ = W at hW ⊢
  refine wp_loop_rounds 4 ?_
  rw [rounds_succ]
  go_wp2_with (first | (go_at_call 35; refine (search_no rises0 H0.out (w.heap.size + 1) _ _ hW.r0 (by have := hW.sz; omega) (by decide)).mono ?_; rintro e w2 ⟨i, rfl, hb0⟩))
  have hW1 := hW.keep hb0
  rw [rounds_succ]
  go_wp2_with (first | (go_at_call 35; refine (search_no rises1 H1.out (w.heap.size + 1 + 1) _ _ hW1.r1 (by have := hW1.sz; omega) (by decide)).mono ?_; rintro e w3 ⟨i, rfl, hb1⟩))
  have hW2 := hW1.keep hb1
  rw [rounds_succ]
  go_wp2_with (first | (go_at_call 35; refine (search_yes rises2 H2.out (w.heap.size + 1 + 1 + 1) _ _ hW2.r2 (by have := hW2.sz; omega) (by decide)).mono ?_; rintro e w4 ⟨i, hx, rfl, hb2⟩; have hW9 := hW2.keep hb2; have hr := hW9.r2 i x hx; have hi1 := (List.getElem?_eq_some_iff.1 hx).1; have HX := Lib.hid hx; clear hx) | (with_reducible refine wpList_load_mid rfl 37 _ rfl (w.heap.size + 1 + 1 + 1) (i * 8) rfl (cells_u x) _ hr Try.underlying37 rfl (row_size x) ?_) | (with_reducible refine wpList_store_mid rfl 37 _ _ rfl w.heap.size 0 (cells_u x).toArray rfl rfl (th_u hW9.th x) (row_size_a x) (row_one x) ?_))
  refine bodyPost_ret (v := .agg (cells_u x).toArray) (results_cell_mid (g := w.heap.size) rfl _ _ (cells_u x) _ (by simp [Act.put]) (World.rangeAt_setCells_same _ _ _ _ (th_u hW9.th x)) Try.underlying37 rfl (row_size x)) rfl ⟨rfl, ?_⟩
  exact below_cells (Nat.le_refl _) _ _ hW9.bel
set_option maxHeartbeats 2000000 in
theorem find_3 (r : Int) (w : World) (h0 : uT0.find? (inU r) = none) (h1 : uT1.find? (inU r) = none) (h2 : uT2.find? (inU r) = none) :
    Calls Try.prog 26 #[.int .i32 r] w fun e w' => e = .returned (.agg (cells_u z37).toArray) ∧ Below w.heap.size w w' := by
  have H0 := Lib.hid h0
  have H1 := Lib.hid h1
  have H2 := Lib.hid h2
  clear h0 h1 h2
  obtain ⟨i0, i1, i2⟩ := index3 (.slice (some ⟨w.heap.size + 1, 0, none⟩) uT0.length uT0.length) (.slice (some ⟨w.heap.size + 1 + 1, 0, none⟩) uT1.length uT1.length) (.slice (some ⟨w.heap.size + 1 + 1 + 1, 0, none⟩) uT2.length uT2.length)
  go_enter Try.func26, Try.ntmps26
  go_wp2_with (first | (go_at_call 32; refine (unidata_rows0.run _).mono ?_; rintro e w1 ⟨rfl, rfl⟩) | (go_at_call 33; refine (unidata_rows1.run _).mono ?_; rintro e w1 ⟨rfl, rfl⟩) | (go_at_call 34; refine (unidata_rows2.run _).mono ?_; rintro e w1 ⟨rfl, rfl⟩))
  have hW := FW.start w #[.int .i32 0, .int .i32 0, .int .u8 0, .int .u8 0, .int .u8 0, .int .u8 0, .int .u8 0, .bool false] rfl
  generalize World.alloc (World.alloc (World.alloc (World.alloc w _) _) _) _ = W at hW ⊢
  refine wp_loop_rounds 4 ?_
  rw [rounds_succ]
  go_wp2_with (first | (go_at_call 35; refine (search_no rises0 H0.out (w.heap.size + 1) _ _ hW.r0 (by have := hW.sz; omega) (by decide)).mono ?_; rintro e w2 ⟨i, rfl, hb0⟩))
  have hW1 := hW.keep hb0
  rw [rounds_succ]
  go_wp2_with (first | (go_at_call 35; refine (search_no rises1 H1.out (w.heap.size + 1 + 1) _ _ hW1.r1 (by have := hW1.sz; omega) (by decide)).mono ?_; rintro e w3 ⟨i, rfl, hb1⟩))
  have hW2 := hW1.keep hb1
  rw [rounds_succ]
  go_wp2_with (first | (go_at_call 35; refine (search_no rises2 H2.out (w.heap.size + 1 + 1 + 1) _ _ hW2.r2 (by have := hW2.sz; omega) (by decide)).mono ?_; rintro e w4 ⟨i, rfl, hb2⟩))
  have hW3 := hW2.keep hb2
  rw [rounds_succ]
  go_wp2_with (first | (with_reducible refine wpList_store_mid rfl 37 _ _ rfl w.heap.size 0 #[.int .i32 0, .int .i32 0, .int .u8 0, .int .u8 0, .int .u8 0, .int .u8 0, .int .u8 0, .bool false] rfl rfl (th_z hW3.th) size_z one_z ?_))
  refine bodyPost_ret (v := .agg (cells_u z37).toArray) (results_cell_mid (g := w.heap.size) rfl _ _ (cells_u z37) _ (by simp [Act.put]) (World.rangeAt_setCells_same _ _ _ _ (th_u hW3.th z37)) Try.underlying37 rfl (row_size z37)) rfl ⟨rfl, ?_⟩
  exact below_cells (Nat.le_refl _) _ _ hW3.bel
theorem find_any (r : Int) (w : World) :
    Calls Try.prog 26 #[.int .i32 r] w fun e w' => e = .returned (.agg (cells_u (findU r)).toArray) ∧ Below w.heap.size w w' := by
  cases h0 : uT0.find? (inU r) with
  | some x => rw [findU0 h0]; exact find_0 r w h0
  | none =>
    cases h1 : uT1.find? (inU r) with
    | some x => rw [findU1 h0 h1]; exact find_1 r w h0 h1
    | none =>
      cases h2 : uT2.find? (inU r) with
      | some x => rw [findU2 h0 h1 h2]; exact find_2 r w h0 h1 h2
      | none => rw [findU3 h0 h1 h2]; exact find_3 r w h0 h1 h2
theorem unidata_find.calls (a0 : Int) (r1 : Int) (r2 : Int) (r3 : Int) (r4 : Int) (r5 : Int) (r6 : Int) (r7 : Int) (r8 : Bool) (w : World) (h : unidata_find.f a0 = some (r1, r2, r3, r4, r5, r6, r7, r8)) :
    Calls Try.prog 26 #[.int .i32 a0] w fun e w' => e = .returned (.agg #[.int .i32 r1, .int .i32 r2, .int .u8 r3, .int .u8 r4, .int .u8 r5, .int .u8 r6, .int .u8 r7, .bool r8]) ∧ Below w.heap.size w w' := by
  have h := Option.some.inj h
  simp only [Prod.mk.injEq] at h
  obtain ⟨rfl, rfl, rfl, rfl, rfl, rfl, rfl, rfl⟩ := h
  exact find_any a0 w
end Go.Proofs.Ytkdhmdmmdbmeaaa.Pr
