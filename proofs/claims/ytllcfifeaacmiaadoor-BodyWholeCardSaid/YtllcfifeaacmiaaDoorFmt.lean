import Derived.Test.YtllcfifeaacmiaaDoorMkb
import Derived.Lib.ConvBytes
import Derived.Lib.LaidU8
import Derived.Lib.TrailingZeros
import Derived.Laws.Bits64b
import Derived.IntWalk
import Derived.Lib.Hide
namespace Go.Proofs.YtllcfifeaacmiaaDoor.Pr
open Go.RowKit Go.Proofs.YtllcfifeaacmiaaDoorW.PrintWords Go.Proofs.YtllcfifeaacmiaaDoorW.PrintLast Go.Proofs.YtllcfifeaacmiaaDoorW.PrintMore
set_option linter.unusedVariables false
set_option linter.unusedSimpArgs false

/-! ### The table that math/bits reads -/
def W16 (w : World) : Prop := w.cell? ⟨2, 15, none⟩ = some (.int .u8 4) ∧ 2 < w.heap.size
theorem W16.keep {w w1 : World} (h : W16 w) (hb : Below w.heap.size w w1) : W16 w1 := by
  refine ⟨?_, Nat.lt_of_lt_of_le h.2 hb.size⟩
  rw [← h.1]
  unfold World.cell?
  rw [hb.block _ h.2]
theorem isPow16 (w : World) : Calls Tryd.prog 45 #[.int .i64 16] w fun e w' => e = .returned (.bool true) ∧ w' = w := by
  have hx : bits .and .i64 16 15 = 0 := by kernel_rfl
  go_enter Tryd.func45, Tryd.ntmps45
  go_wp2
  go_ret
  exact ⟨rfl, rfl⟩
theorem tz64_16 (w : World) (hG : W16 w) : Calls Tryd.prog 51 #[.int .u64 16] w fun e w' => e = .returned (.int .i64 4) ∧ w' = w := by
  have hc := hG.1
  have key : IntKind.u64.wrap (bits .and .u64 16 (IntKind.u64.wrap (-16)) * 285870213051353865) / 288230376151711744 = 15 := by kernel_rfl
  go_enter Tryd.func51, Tryd.ntmps51
  go_wp2_with (simp only [key])
  go_ret
  exact ⟨rfl, rfl⟩
theorem tz_16 (w : World) (hG : W16 w) : Calls Tryd.prog 46 #[.int .u64 16] w fun e w' => e = .returned (.int .i64 4) ∧ w' = w := by
  go_enter Tryd.func46, Tryd.ntmps46
  go_wp2_with (go_at_call 51; refine (tz64_16 _ hG).mono ?_; rintro e w' ⟨rfl, rfl⟩)
  go_ret
  exact ⟨rfl, rfl⟩

/-! ### Digits by 16 -/
structure Fb (w W : World) (t : List UInt8) : Prop where
  le : t.length ≤ 65
  at_ : ∀ (i : Nat), 65 - t.length ≤ i → i < 65 → W.cell? ⟨w.heap.size, i, none⟩ = some (.int .u8 ((t.getD (i - (65 - t.length)) 0).toNat : Int))
  th : ∀ i, i < 65 → (W.cell? ⟨w.heap.size, i, none⟩).isSome = true ∧ W.frozen? ⟨w.heap.size, i, none⟩ = false
  sz : w.heap.size < W.heap.size
  bel : Below w.heap.size w W
theorem Fb.push {w W : World} {t : List UInt8} (h : Fb w W t) (c : UInt8) (k : Nat) (hk : k + t.length + 1 = 65) : Fb w (W.setCell ⟨w.heap.size, k, none⟩ (.int .u8 (c.toNat : Int))) (c :: t) := by
  have hs := (h.th k (by omega)).1
  refine ⟨by simp; omega, fun i h1 h2 => ?_, fun i hi => ?_, by simpa using h.sz, h.bel.setCell (by simp) _⟩
  · by_cases hik : i = k
    · subst hik
      rw [World.cell?_setCell_same' _ _ _ hs]
      rw [show i - (65 - (c :: t).length) = 0 by simp; omega]
      rfl
    · simp only [List.length_cons] at h1
      rw [World.cell?_setCell_other _ _ _ _ (by intro e; exact hik (by cases e; rfl)), h.at_ i (by omega) h2]
      simp only [List.length_cons]
      rw [show i - (65 - (t.length + 1)) = (i - (65 - t.length)) + 1 by omega]
      rfl
  · refine ⟨?_, by rw [World.frozen?_setCell]; exact (h.th i hi).2⟩
    by_cases hik : i = k
    · subst hik
      rw [World.cell?_setCell_same' _ _ _ hs]; rfl
    · rw [World.cell?_setCell_other _ _ _ _ (by intro e; exact hik (by cases e; rfl))]
      exact (h.th i hi).1
theorem Fb.keep {w W W1 : World} {t : List UInt8} (h : Fb w W t) (hb : Below W.heap.size W W1) : Fb w W1 t := by
  have hc : ∀ i, W1.cell? ⟨w.heap.size, i, none⟩ = W.cell? ⟨w.heap.size, i, none⟩ := fun i => by unfold World.cell?; rw [hb.block _ h.sz]
  have hf : ∀ i, W1.frozen? ⟨w.heap.size, i, none⟩ = W.frozen? ⟨w.heap.size, i, none⟩ := fun i => by unfold World.frozen?; rw [hb.block _ h.sz]
  exact ⟨h.le, fun i h1 h2 => by rw [hc]; exact h.at_ i h1 h2, fun i hi => by rw [hc, hf]; exact h.th i hi, Nat.lt_of_lt_of_le h.sz hb.size, below_then h.bel (Nat.le_of_lt h.sz) hb⟩
theorem Fb.conv {w W : World} {t : List UInt8} (h : Fb w W t) (k n c : Nat) (hk : k + t.length = 65) (hn : n = t.length) : (convert 45 9 (.slice (some ⟨w.heap.size, k, none⟩) n c)).run Tryd.prog W = .ok (.string (mkB t)) W := by
  subst hn
  have := run_convert_bytes_arg (P := Tryd.prog) W 45 5 Tryd.underlying45 Tryd.underlying5 w.heap.size k t.length c (t.map fun c : UInt8 => (c.toNat : Int)) (by simp) (fun i hi => by
    have := h.at_ (k + i) (by omega) (by omega)
    rw [this]
    rw [show k + i - (65 - t.length) = i by omega]
    simp [List.getD_eq_getElem?_getD, List.getElem?_eq_getElem hi]) 9 Tryd.underlying9
  refine this.trans ?_
  have e : strOfNums (t.map fun c : UInt8 => (c.toNat : Int)) = mkB t := by
    unfold strOfNums mkB
    rw [List.map_map]
    have e2 : t.map ((fun n : Int => UInt8.ofNat n.toNat) ∘ fun c : UInt8 => (c.toNat : Int)) = t := by
      conv => rhs; rw [← List.map_id t]
      exact List.map_congr_left fun c _ => by simp
    rw [e2]
  rw [e]
theorem Fb.start (w : World) : Fb w (w.alloc (.cells Tryd.zeroCells74 74)) [] := by
  have hz : Tryd.zeroCells74.size = 65 := by kernel_rfl
  refine ⟨by simp, fun i h1 h2 => by simp at h1; omega, fun i hi => ⟨?_, by simp⟩, by simp, below_alloc (Below.refl _ _) _⟩
  rw [World.cell?_alloc_new, Array.getElem?_eq_getElem (by omega)]
  rfl
theorem idx36 (d : Nat) (hd : d < 16) (w : World) : (Instr.index 9 (.string ⟨#[48, 49, 50, 51, 52, 53, 54, 55, 56, 57, 97, 98, 99, 100, 101, 102, 103, 104, 105, 106, 107, 108, 109, 110, 111, 112, 113, 114, 115, 116, 117, 118, 119, 120, 121, 122]⟩) (.int .u64 (d : Int))).run Tryd.prog w = .ok (.int .u8 ((hexc d).toNat : Int)) w := by
  rcases (by omega : d = 0 ∨ d = 1 ∨ d = 2 ∨ d = 3 ∨ d = 4 ∨ d = 5 ∨ d = 6 ∨ d = 7 ∨ d = 8 ∨ d = 9 ∨ d = 10 ∨ d = 11 ∨ d = 12 ∨ d = 13 ∨ d = 14 ∨ d = 15) with rfl | rfl | rfl | rfl | rfl | rfl | rfl | rfl | rfl | rfl | rfl | rfl | rfl | rfl | rfl | rfl
  all_goals kernel_rfl
set_option maxHeartbeats 1000000 in
theorem slA (b k : Nat) (hk : k ≤ 64) (w : World) : (Instr.sliceAt 74 (.pointer (some ⟨b, 0, none⟩)) (some (.int .i64 (k : Int))) none none).run Tryd.prog w = .ok (.slice (some ⟨b, k, none⟩) (65 - k) (65 - k)) w := by
  have hu : Tryd.prog.underlying 74 = some (.array (Tryd.prog.arrayLen 74) (Tryd.prog.elem 74)) := by kernel_rfl
  have hl : Tryd.prog.arrayLen 74 = 65 := by kernel_rfl
  have hs : ∀ w, (sizeOf (Tryd.prog.elem 74)).run Tryd.prog w = .ok 1 w := fun w => by kernel_rfl
  rw [run_sliceAt_array_l w _ _ hu .i64 (k : Int) (by omega) (by rw [hl]; omega), hs]
  simp only [Result.andThen, slicedAt, hl, Int.toNat_natCast]
  rw [if_neg (by omega)]
  unfold Addr.add
  split
  · next h => rw [show k = 0 by omega]
  · simp
set_option maxRecDepth 4000 in
theorem fmt16 (n : Nat) (hn : n < 18446744073709551616) (w : World) (hG : W16 w) :
    Calls Tryd.prog 34 #[.slice none 0 0, .int .u64 (n : Int), .int .i64 16, .bool false, .bool false] w fun e w' => e = .returned (.tuple #[.slice none 0 0, .string (mkB (digs 16 n))]) ∧ Below w.heap.size w w' := by
  have HG := Lib.hid hG
  clear hG
  go_enter Tryd.func34, Tryd.ntmps34
  go_wp2_with (first | (go_at_call 45; refine (isPow16 _).mono ?_; rintro e w' ⟨rfl, hw⟩; subst hw) | (go_at_call 46; refine (tz_16 _ (HG.out.keep (below_alloc (Below.refl _ _) _))).mono ?_; rintro e w' ⟨rfl, hw⟩; subst hw))
  have HF := Fb.start w
  generalize w.alloc (Obj.cells Tryd.zeroCells74 74) = W at HF ⊢
  go_loopg [1, 13] (n + 2) (fun kq v1 v13 w' => ∃ (m k : Nat) (t : List UInt8), v1 = .int .u64 (m : Int) ∧ v13 = .int .i64 (k : Int) ∧ Aside0 (digs 16 m ++ t = digs 16 n) ∧ Aside0 (m < kq) ∧ m ≤ n ∧ Aside0 (k + t.length = 65) ∧ k ≤ 65 ∧ Aside0 (Fb w w' t))
  case atStart => exact ⟨n, 65, [], rfl, rfl, ⟨by simp⟩, ⟨by omega⟩, Nat.le_refl _, ⟨rfl⟩, Nat.le_refl _, ⟨HF⟩⟩
  case round =>
    clear HF
    obtain ⟨m, k, t, rfl, rfl, HO, HK, hmn, HT, hk65, HF⟩ := hrel
    have hL : (digs 16 m).length + t.length ≤ 65 := by
      have h1 := digs_length 16 (by decide) 64 n hn
      rw [← HO.out, List.length_append] at h1
      exact h1
    have hL1 : 1 ≤ (digs 16 m).length := List.length_pos_iff.2 (digs_ne 16 m)
    obtain ⟨k, rfl⟩ : ∃ k1, k = k1 + 1 := ⟨k - 1, by have := HT.out; omega⟩
    obtain ⟨⟨x0, hx0⟩, hx1⟩ : (∃ x0, wr.cell? ⟨w.heap.size, k, none⟩ = some x0) ∧ wr.frozen? ⟨w.heap.size, k, none⟩ = false := ⟨Option.isSome_iff_exists.1 (HF.out.th k (by omega)).1, (HF.out.th k (by omega)).2⟩
    have hkk : (((k + 1 : Nat) : Int)) = (k : Int) + 1 := by omega
    have hk64 : k ≤ 64 := by omega
    rw [hkk]
    have hd : m % 16 < 16 := Nat.mod_lt _ (by decide)
    have hand : bits .and .u64 (m : Int) 15 = ((m % 16 : Nat) : Int) := by
      rw [show (15 : Int) = ((15 : Nat) : Int) from rfl, bits_and_u64_nat m 15 (by omega) (by omega), show 15 = 2 ^ 4 - 1 from rfl, Nat.and_two_pow_sub_one_eq_mod]
    cases gk with
    | zero => exact absurd HK.out (by omega)
    | succ k1 =>
      by_cases hz : m < 16
      · have hb1 : decide ((16 : Int) ≤ (m : Int)) = false := decide_eq_false (by omega)
        have hO := HO.out
        rw [digs_small hz] at hO
        have HO2 := Aside0.mk hO
        have hsc2 := idx36 m hz
        have HF2 := Aside0.mk (HF.out.push (hexc m) k (by have := HT.out; omega))
        clear hO HO HK HF hL hL1 hd hand
        have HC : ∀ W' n' c', Fb w W' (hexc m :: t) → n' = (hexc m :: t).length → (convert 45 9 (.slice (some ⟨w.heap.size, k, none⟩) n' c')).run Tryd.prog W' = .ok (.string (mkB (digs 16 n))) W' := fun W' n' c' hF hn' => by
          rw [hF.conv k n' c' (by have := HT.out; simp; omega) hn']
          rw [show hexc m :: t = digs 16 n from HO2.out]
        have HL2 : (mkB (digs 16 n)).size ≤ 65 := by rw [mkB_size]; exact digs_length 16 (by decide) 64 n hn
        have hsl := slA w.heap.size k hk64
        generalize hexc m = cx at hsc2 HF2 HC
        clear HO2
        have hcv := HC _ (65 - k) (65 - k) HF2.out (by have := HT.out; simp; omega)
        clear HC
        go_wp2_with fail
        go_ret2
        exact ⟨rfl, HF2.out.bel⟩
      · have hb1 : decide ((16 : Int) ≤ (m : Int)) = true := decide_eq_true (by omega)
        have hO := HO.out
        rw [digs_step (by decide) (by omega)] at hO
        have HO2 : Aside0 (digs 16 (m / 16) ++ (hexc (m % 16) :: t) = digs 16 n) := ⟨by rw [← hO]; simp⟩
        have hl2 : (digs 16 m).length = (digs 16 (m / 16)).length + 1 := by rw [digs_step (by decide) (by omega)]; simp
        have hl3 : 1 ≤ (digs 16 (m / 16)).length := List.length_pos_iff.2 (digs_ne 16 _)
        have hsc2 := idx36 (m % 16) hd
        have HF2 := Aside0.mk (HF.out.push (hexc (m % 16)) k (by have := HT.out; omega))
        have HV : Aside0 ((m : Int) / 16 = ((m / 16 : Nat) : Int)) := ⟨by omega⟩
        have HK2 := Aside0.mk (show m / 16 < k1 from by have := HK.out; omega)
        have hm16 : m / 16 ≤ n := by omega
        have HT2 : Aside0 (k + (hexc (m % 16) :: t).length = 65) := ⟨by have := HT.out; simp; omega⟩
        generalize m % 16 = d at *
        clear hO HO HK HF hL hL1 hl2 hl3 hz
        generalize hexc d = cx at hsc2 HF2 HO2 HT2
        go_wp2_with fail
        go_roundg k1
        case measure => omega
        case rel => exact ⟨m / 16, k, cx :: t, by rw [HV.out], rfl, HO2, HK2, hm16, HT2, by omega, HF2⟩
/-! ### internal/strconv.FormatUint, FormatInt -/
end Go.Proofs.YtllcfifeaacmiaaDoor.Pr
