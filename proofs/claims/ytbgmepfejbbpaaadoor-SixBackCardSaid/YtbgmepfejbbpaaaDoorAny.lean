import Derived.Test.YtbgmepfejbbpaaaDoorMkb
import Derived.Test.YtbgmepfejbbpaaaDoorShelf
import Derived.Laws.RangeAny
import Derived.WalkMore
import Derived.Lib.OthersKept
namespace Go.Proofs.YtbgmepfejbbpaaaDoor.Pr
open Go.RowKit Go.Proofs.YtbgmepfejbbpaaaDoorW.PrintWords Go.Proofs.YtbgmepfejbbpaaaDoorW.PrintLast Go.Proofs.YtbgmepfejbbpaaaDoorW.PrintMore
set_option linter.unusedVariables false
set_option linter.unusedSimpArgs false

/-! ### strings.IndexAny at ":.", any text -/
theorem enc_tail (r : Int) (h : 128 ≤ r) (hv : Lib.validRune r = true) : ∃ (E : ByteArray) (n : Nat) (x : UInt8), Utf8.encode r = E ∧ E.size = n + 2 ∧ E.data.toList[n + 1]? = some x ∧ 128 ≤ x.toNat ∧ n ≤ 2 := by
  have hv2 : Utf8.valid r = true := by
    unfold Lib.validRune at hv
    unfold Utf8.valid
    simp at hv ⊢
    omega
  obtain ⟨c, rfl⟩ := Int.eq_ofNat_of_zero_le (show 0 ≤ r by omega)
  have hc : 128 ≤ c := by omega
  have hm : ∀ k, 128 ≤ (UInt8.ofNat (0x80 + k % 64)).toNat := fun k => by
    rw [UInt8.toNat_ofNat']; omega
  unfold Utf8.encode
  rw [hv2]
  simp only [if_true, Int.toNat_natCast]
  rw [if_neg (by omega)]
  split
  · exact ⟨_, 0, _, rfl, rfl, rfl, hm _, by omega⟩
  · split
    · exact ⟨_, 1, _, rfl, rfl, rfl, hm _, by omega⟩
    · exact ⟨_, 2, _, rfl, rfl, rfl, hm _, by omega⟩
set_option maxHeartbeats 8000000 in
set_option maxRecDepth 1000000 in
theorem irune_bad (w : World) : Calls Tryd.prog 31 #[.string ⟨#[58, 46]⟩, .int .i32 65533] w fun e w' => e = .returned (.int .i64 (-1)) ∧ Below w.heap.size w w' := by
  have h0 : (Instr.next (.pointer (some ⟨w.heap.size, 0, none⟩)) true 0).run Tryd.prog (w.iter ⟨#[58, 46]⟩ 0) = .ok (.tuple #[.bool true, .int .i64 0, .int .i32 58]) (w.iter ⟨#[58, 46]⟩ 1) := run_next_ascii (P := Tryd.prog) w ⟨#[58, 46]⟩ 0 0 (by decide) (by decide)
  have h1 : (Instr.next (.pointer (some ⟨w.heap.size, 0, none⟩)) true 0).run Tryd.prog (w.iter ⟨#[58, 46]⟩ 1) = .ok (.tuple #[.bool true, .int .i64 1, .int .i32 46]) (w.iter ⟨#[58, 46]⟩ 2) := run_next_ascii (P := Tryd.prog) w ⟨#[58, 46]⟩ 1 0 (by decide) (by decide)
  have h2 := run_next_end (P := Tryd.prog) w ⟨#[58, 46]⟩ 2 0 (by decide)
  go_enter Tryd.func31, Tryd.ntmps31
  go_wp2
  refine wp_loop_rounds 3 ?_
  rw [rounds_succ]
  go_wp2_with fail
  rw [rounds_succ]
  go_wp2_with fail
  rw [rounds_succ]
  go_wp2_with fail
  go_ret
  exact ⟨rfl, below_alloc (Below.refl _ _) _⟩
set_option maxHeartbeats 8000000 in
set_option maxRecDepth 1000000 in
theorem irune_inv (r : Int) (h1 : 128 ≤ r) (h2 : r ≤ 2147483647) (hb : (r == 65533) = false) (hv : Lib.validRune r = false) (w : World) : Calls Tryd.prog 31 #[.string ⟨#[58, 46]⟩, .int .i32 r] w fun e w' => e = .returned (.int .i64 (-1)) ∧ Below w.heap.size w w' := by
  have h0 : (0 : Int) ≤ r := by omega
  go_enter Tryd.func31, Tryd.ntmps31
  go_wp2_with (go_at_call 45; refine (Tryd.utf8_ValidRune _ _).mono ?_; rintro e w' ⟨rfl, hw⟩; rw [hw, hv])
  go_ret
  exact ⟨rfl, Below.refl _ _⟩
set_option maxHeartbeats 8000000 in
set_option maxRecDepth 1000000 in
theorem irune_val (r : Int) (h1 : 128 ≤ r) (h2 : r ≤ 2147483647) (hb : (r == 65533) = false) (hv : Lib.validRune r = true) (w : World) : Calls Tryd.prog 31 #[.string ⟨#[58, 46]⟩, .int .i32 r] w fun e w' => e = .returned (.int .i64 (-1)) ∧ Below w.heap.size w w' := by
  have h0 : (0 : Int) ≤ r := by omega
  obtain ⟨E, n, x, hE, hs, hx, hx1, hn⟩ := enc_tail r h1 hv
  have hcv : ∀ w, (convert 21 9 (.int .i32 r)).run Tryd.prog w = .ok (.string E) w := by
    intro w
    rw [← hE]
    simp [convert, run_underlying Tryd.underlying21, run_underlying Tryd.underlying9, Conv.intToString]
  rcases (by omega : n = 0 ∨ 1 ≤ n) with rfl | hn1
  · have hs2 : E.size = 2 := hs
    have hne : ((46 : Int) == (x.toNat : Int)) = false := beq_eq_false_iff_ne.2 (by omega)
    have hix : ∀ w, (Instr.index 9 (.string E) (.int .i64 1)).run Tryd.prog w = .ok (.int .u8 (x.toNat : Int)) w := by
      intro w
      have hx2 : E.data.toList[1]? = some x := hx
      have hi : (0 : Int) ≤ 1 ∧ (1 : Int) < E.size := by omega
      rw [run_index_string w _ _ _ _ Tryd.underlying9, dif_pos hi]
      have hx3 : E[1]'(by omega) = x := by
        have := Lib.data_getElem? E 1 (by omega)
        rw [hx2] at this
        exact (Option.some.inj this).symm
      rw [← hx3]
      rfl
    have hix2 : ∀ w, (Instr.index 9 (.string ⟨#[58, 46]⟩) (.int .i64 1)).run Tryd.prog w = .ok (.int .u8 46) w := fun w => by kernel_rfl
    have hsl : ∀ w, (Instr.slice 9 (.string ⟨#[58, 46]⟩) (some (.int .i64 2)) none none).run Tryd.prog w = .ok (.string ⟨#[]⟩) w := fun w => by kernel_rfl
    have hw2 : IntKind.i64.wrap 2 = 2 := by kernel_rfl
    have hib : ∀ w, Calls Tryd.prog 36 #[.string ⟨#[]⟩, .int .u8 (x.toNat : Int)] w fun e w' => e = .returned (.int .i64 (-1)) ∧ w' = w := fun w => Tryd.strings_IndexByte ⟨#[]⟩ (x.toNat : Int) w
    clear hs hx hE
    go_enter Tryd.func31, Tryd.ntmps31
    go_wp2_with (go_at_call 45; refine (Tryd.utf8_ValidRune _ _).mono ?_; rintro e w' ⟨rfl, hw⟩; rw [hw, hv])
    go_step3
    go_wp2_with fail
    refine wp_loop_rounds 1 ?_
    rw [rounds_succ]
    go_wp2_with fail
    go_step3
    go_wp2_with fail
    go_quiet (fail)
    go_wp2_with fail
    go_quiet (exact (hib _).mono fun _ _ h => ⟨h.1, _, h.2⟩)
    go_wp2_with fail
    simp only [Exit.noGoto_ret]
    go_wp2_with fail
    simp only [Exit.noGoto_ret]
    go_wp2_with fail
    go_ret
    exact ⟨rfl, pw_below_drewN (Below.refl _ _) _⟩
  · clear hx hE
    go_enter Tryd.func31, Tryd.ntmps31
    go_wp2_with (go_at_call 45; refine (Tryd.utf8_ValidRune _ _).mono ?_; rintro e w' ⟨rfl, hw⟩; rw [hw, hv])
    go_step3
    go_wp2_with fail
    refine wp_loop_rounds 1 ?_
    rw [rounds_succ]
    go_wp2_with fail
    simp only [Exit.noGoto_ret]
    go_wp2_with fail
    go_ret
    exact ⟨rfl, Below.refl _ _⟩
theorem irune_any (r : Int) (h1 : 128 ≤ r) (h2 : r ≤ 2147483647) (w : World) : Calls Tryd.prog 31 #[.string ⟨#[58, 46]⟩, .int .i32 r] w fun e w' => e = .returned (.int .i64 (-1)) ∧ Below w.heap.size w w' := by
  cases hb : (r == 65533) with
  | true =>
    obtain rfl := eq_of_beq hb
    exact irune_bad w
  | false =>
    cases hv : Lib.validRune r with
    | true => exact irune_val r h1 h2 hb hv w
    | false => exact irune_inv r h1 h2 hb hv w
theorem dec_wide (s : ByteArray) (pos : Nat) (h : pos < s.size) (ha : 128 ≤ (s[pos]'h).toNat) : ∀ m, m < (Utf8.decode s pos).2 → pos + m < s.size ∧ 128 ≤ (s.get! (pos + m)).toNat := by
  have hn : ¬ (s[pos]'h).toNat < 128 := by omega
  have g0 := get_at s pos h
  have h0 : pos + 0 < s.size ∧ 128 ≤ (s.get! (pos + 0)).toNat := ⟨h, by rw [g0]; exact ha⟩
  have one : ∀ m, m < 1 → pos + m < s.size ∧ 128 ≤ (s.get! (pos + m)).toNat := fun m hm => by
    obtain rfl : m = 0 := by omega
    exact h0
  have hc : ∀ k, (decide (pos + k < s.size) && (s.get! (pos + k)).toNat / 64 == 2) = true → pos + k < s.size ∧ 128 ≤ (s.get! (pos + k)).toNat := fun k hk => by
    simp only [Bool.and_eq_true, decide_eq_true_eq, beq_iff_eq] at hk
    omega
  unfold Utf8.decode
  simp only [g0, hn, if_false]
  split
  · next hx =>
    simp only [Bool.and_eq_true] at hx
    have c1 := hc 1 (by simp only [Bool.and_eq_true]; exact hx.2)
    split
    · intro m hm
      simp only at hm
      rcases (by omega : m = 0 ∨ m = 1) with rfl | rfl
      · exact h0
      · exact c1
    · exact one
  · split
    · next hx =>
      simp only [Bool.and_eq_true] at hx
      have c1 := hc 1 (by simp only [Bool.and_eq_true]; exact hx.1.2)
      have c2 := hc 2 (by simp only [Bool.and_eq_true]; exact hx.2)
      split
      · intro m hm
        simp only at hm
        rcases (by omega : m = 0 ∨ m = 1 ∨ m = 2) with rfl | rfl | rfl
        · exact h0
        · exact c1
        · exact c2
      · exact one
    · split
      · next hx =>
        simp only [Bool.and_eq_true] at hx
        have c1 := hc 1 (by simp only [Bool.and_eq_true]; exact hx.1.1.2)
        have c2 := hc 2 (by simp only [Bool.and_eq_true]; exact hx.1.2)
        have c3 := hc 3 (by simp only [Bool.and_eq_true]; exact hx.2)
        split
        · intro m hm
          simp only at hm
          rcases (by omega : m = 0 ∨ m = 1 ∨ m = 2 ∨ m = 3) with rfl | rfl | rfl | rfl
          · exact h0
          · exact c1
          · exact c2
          · exact c3
        · exact one
      · exact one
theorem noAny_wide (s : ByteArray) (i k : Nat) (hno : Lib.NoAny s.data.toList [58, 46] i) (hk : ∀ m, m < k → i + m < s.size ∧ 128 ≤ (s.get! (i + m)).toNat) : Lib.NoAny s.data.toList [58, 46] (i + k) := by
  intro j b hj hb
  by_cases h : j < i
  · exact hno j b h hb
  · obtain ⟨m, rfl⟩ : ∃ m, j = i + m := ⟨j - i, by omega⟩
    obtain ⟨h1, h2⟩ := hk m (by omega)
    have e : s.get! (i + m) = b := by
      have h3 := get_at s (i + m) h1
      have h4 := Lib.data_getElem? s (i + m) h1
      rw [hb] at h4
      rw [show i + m + 0 = i + m from rfl] at h3
      rw [h3]
      exact (Option.some.inj h4).symm
    rw [e] at h2
    simp only [List.contains_cons, List.contains_nil, Bool.or_false, Bool.or_eq_false_iff, beq_eq_false_iff_ne]
    constructor <;> (rintro rfl; revert h2; decide)
theorem irune_asc (x : UInt8) (w : World) (hx : x.toNat < 128) : Calls Tryd.prog 31 #[.string ⟨#[58, 46]⟩, .int .i32 (x.toNat : Int)] w fun e w' => e = .returned (.int .i64 (Lib.indexByte [58, 46] x)) ∧ Below w.heap.size w w' := by
  refine (Tryd.strings_IndexRune_ascii ⟨#[58, 46]⟩ (x.toNat : Int) w (by omega) (by omega)).mono ?_
  rintro e w' ⟨rfl, rfl⟩
  refine ⟨?_, Below.refl _ _⟩
  simp
/-- The iterator's block. -/
structure ItW (w W : World) (s : ByteArray) (i : Nat) : Prop where
  it : W.heap[w.heap.size]? = some (.stringIter s i)
  bel : Below w.heap.size w W
theorem ItW.lt {w W : World} {s : ByteArray} {i : Nat} (h : ItW w W s i) : w.heap.size < W.heap.size := (Array.getElem?_eq_some_iff.1 h.it).1
theorem ItW.keep {w W W1 : World} {s : ByteArray} {i : Nat} (h : ItW w W s i) (hb : Below W.heap.size W W1) : ItW w W1 s i := ⟨by rw [hb.block _ h.lt]; exact h.it, below_then h.bel (Nat.le_of_lt h.lt) hb⟩
theorem ItW.next {w W : World} {s : ByteArray} {i : Nat} (h : ItW w W s i) (j : Nat) : ItW w (W.iterAt w.heap.size s j) s j := ⟨Lib.iterAt_heap _ _ _ _ _ h.it, Lib.below_iterAt h.bel (Nat.le_refl _) _ _⟩
set_option maxHeartbeats 8000000 in
set_option maxRecDepth 1000000 in
theorem indexAny_short (s : ByteArray) (w : World) (h8 : s.size ≤ 8) :
    Calls Tryd.prog 20 #[.string s, .string ⟨#[58, 46]⟩] w fun e w' => e = .returned (.int .i64 (Lib.indexAny s.data.toList [58, 46])) ∧ Below w.heap.size w w' := by
  have h8z : decide ((8 : Int) < (s.size : Int)) = false := decide_eq_false (by omega)
  go_enter Tryd.func20, Tryd.ntmps20
  go_wp2_with (go_at_call 32; refine (Tryd.strings_shouldUseASCIISet _ _).mono ?_; rintro e w' ⟨rfl, hw⟩; rw [hw, h8z])
  go_loopg [9, 10] s.size (fun g _ _ wx => ∃ i : Nat, i ≤ s.size ∧ s.size ≤ i + g ∧ Aside0 (ItW w wx s i) ∧ Aside0 (Lib.NoAny s.data.toList [58, 46] i))
  case atStart => exact ⟨0, Nat.zero_le _, by omega, ⟨⟨World.iter_heap _ _ _, below_alloc (Below.refl _ _) _⟩⟩, ⟨Lib.NoAny.zero _ _⟩⟩
  case round =>
    obtain ⟨i, hi1, hi2, HI, HN⟩ := hrel
    by_cases hi : i < s.size
    · cases gk with
      | zero => exact absurd hi (by omega)
      | succ g =>
        have hnx := fun ty => Lib.run_next_any_at (P := Tryd.prog) wr w.heap.size s i ty HI.out.it hi
        have HI2 := fun j => Aside0.mk (HI.out.next j)
        clear HI
        by_cases hx : (s[i]'hi).toNat < 128
        · have hd := decode_ascii s i hi hx
          obtain ⟨x, hxe⟩ : ∃ x : UInt8, s[i]'hi = x := ⟨_, rfl⟩
          have hxl : s.data.toList[i]? = some x := by rw [← hxe]; exact Lib.data_getElem? s i hi
          rw [hxe] at hd hx
          simp only [hd] at hnx
          have HA := Aside0.mk (irune_asc x · hx)
          have hcon := Lib.contains_iff_indexByte [58, 46] x
          have HX := Aside0.mk hxl
          clear hd hxl hxe hx
          replace HI2 := HI2 (i + 1)
          cases hin : [58, 46].contains x with
          | false =>
            rw [hin] at hcon
            have hlt : decide ((0 : Int) ≤ Lib.indexByte [58, 46] x) = false := hcon.symm
            have HN2 := Aside0.mk (HN.out.succ HX.out hin)
            clear hcon hin HN
            generalize Lib.indexByte [58, 46] x = v at HA hlt
            go_wp2_with (go_at_call 31; refine (HA.out _).mono ?_; rintro e w' ⟨rfl, hw⟩)
            go_roundg g
            case measure => omega
            case rel => exact ⟨i + 1, by omega, by omega, ⟨HI2.out.keep hw⟩, HN2⟩
          | true =>
            rw [hin] at hcon
            have hlt : decide ((0 : Int) ≤ Lib.indexByte [58, 46] x) = true := hcon.symm
            have HR := Aside0.mk (Lib.indexAny_hit HN.out HX.out hin)
            clear hcon hin HN
            generalize Lib.indexByte [58, 46] x = v at HA hlt
            go_wp2_with (go_at_call 31; refine (HA.out _).mono ?_; rintro e w' ⟨rfl, hw⟩)
            go_ret
            exact ⟨by rw [HR.out]; rfl, (HI2.out.keep hw).bel⟩
        · have hd := decode_high s i hi (by omega)
          have hd2 := decode_le s i
          have hd3 := dec_wide s i hi (by omega)
          clear hx
          generalize Utf8.decode s i = d at hd hd2 hd3 hnx
          obtain ⟨r, k⟩ := d
          simp only at hd hd2 hd3 hnx
          obtain ⟨hr, hk⟩ := hd
          have HN2 := Aside0.mk (noAny_wide s i k HN.out hd3)
          have hik : i + k ≤ s.size := by have := (hd3 (k - 1) (by omega)).1; omega
          have HA := Aside0.mk (irune_any (r : Int) (by omega) (by omega))
          replace HI2 := HI2 (i + k)
          clear hd3 HN
          go_wp2_with (go_at_call 31; refine (HA.out _).mono ?_; rintro e w' ⟨rfl, hw⟩)
          go_roundg g
          case measure => omega
          case rel => exact ⟨i + k, by omega, by omega, ⟨HI2.out.keep hw⟩, HN2⟩
    · obtain rfl : i = s.size := by omega
      have hnx := fun ty => Lib.run_next_end_at (P := Tryd.prog) wr w.heap.size s s.size ty HI.out.it hi
      have HR := Aside0.mk (Lib.indexAny_none (s := s.data.toList) (chars := [58, 46]) (by rw [data_length]; exact HN.out))
      clear HN
      go_wp2_with fail
      go_ret
      exact ⟨by rw [HR.out]; rfl, HI.out.bel⟩
theorem strings_IndexAny.any (s : ByteArray) (w : World) (hs : s.size < 4294967281) :
    Calls Tryd.prog 20 #[.string s, .string ⟨#[58, 46]⟩] w fun e w' => e = .returned (.int .i64 (Lib.indexAny s.data.toList [58, 46])) ∧ Below w.heap.size w w' := by
  by_cases h8 : s.size ≤ 8
  · exact indexAny_short s w h8
  · refine (Tryd.strings_IndexAny_long (fun w => by kernel_rfl) s ⟨#[58, 46]⟩ w (by decide) (by omega) hs (by decide) (fun j b hb => ?_)).mono ?_
    · have h2 : ∀ b ∈ ([58, 46] : List UInt8), b.toNat < 128 := by decide
      exact h2 b (List.mem_of_getElem? hb)
    rintro e w' ⟨rfl, rfl⟩
    exact ⟨rfl, below_alloc (below_alloc (Below.refl _ _) _) _⟩
end Go.Proofs.YtbgmepfejbbpaaaDoor.Pr
