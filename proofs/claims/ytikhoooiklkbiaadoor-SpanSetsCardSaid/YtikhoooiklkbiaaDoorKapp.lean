import Derived.Test.YtikhoooiklkbiaaDoorMkb
import Derived.Lib.ConvBytes
import Derived.Lib.LaidU8
import Derived.Lib.TrailingZeros
import Derived.Laws.Bits64b
import Derived.IntWalk
import Derived.Lib.Hide
import Derived.Lib.AppendIntMem
namespace Go.Proofs.YtikhoooiklkbiaaDoor.Pr
open Go.RowKit Go.Proofs.YtikhoooiklkbiaaDoorW.PrintWords Go.Proofs.YtikhoooiklkbiaaDoorW.PrintLast Go.Proofs.YtikhoooiklkbiaaDoorW.PrintMore
set_option linter.unusedVariables false
set_option linter.unusedSimpArgs false

/-! ### The table that math/bits reads -/
def W16 (w : World) : Prop := w.cell? ⟨2, 15, none⟩ = some (.int .u8 4) ∧ 2 < w.heap.size
theorem W16.keep {w w1 : World} (h : W16 w) (hb : Below w.heap.size w w1) : W16 w1 := by
  refine ⟨?_, Nat.lt_of_lt_of_le h.2 hb.size⟩
  rw [← h.1]
  unfold World.cell?
  rw [hb.block _ h.2]
theorem isPow16 (w : World) : Calls Tryd.prog 72 #[.int .i64 16] w fun e w' => e = .returned (.bool true) ∧ w' = w := by
  have hx : bits .and .i64 16 15 = 0 := by kernel_rfl
  go_enter Tryd.func72, Tryd.ntmps72
  go_wp2
  go_ret
  exact ⟨rfl, rfl⟩
theorem tz64_16 (w : World) (hG : W16 w) : Calls Tryd.prog 80 #[.int .u64 16] w fun e w' => e = .returned (.int .i64 4) ∧ w' = w := by
  have hc := hG.1
  have key : IntKind.u64.wrap (bits .and .u64 16 (IntKind.u64.wrap (-16)) * 285870213051353865) / 288230376151711744 = 15 := by kernel_rfl
  go_enter Tryd.func80, Tryd.ntmps80
  go_wp2_with (simp only [key])
  go_ret
  exact ⟨rfl, rfl⟩
theorem tz_16 (w : World) (hG : W16 w) : Calls Tryd.prog 73 #[.int .u64 16] w fun e w' => e = .returned (.int .i64 4) ∧ w' = w := by
  go_enter Tryd.func73, Tryd.ntmps73
  go_wp2_with (go_at_call 80; refine (tz64_16 _ hG).mono ?_; rintro e w' ⟨rfl, rfl⟩)
  go_ret
  exact ⟨rfl, rfl⟩

/-! ### Digits by 16 -/
structure Fb (w W : World) (t : List UInt8) : Prop where
  le : t.length ≤ 65
  at_ : ∀ (i : Nat), 65 - t.length ≤ i → i < 65 → W.cell? ⟨w.heap.size, i, none⟩ = some (.int .u8 ((t.getD (i - (65 - t.length)) 0).toNat : Int))
  th : ∀ i, i < 65 → (W.cell? ⟨w.heap.size, i, none⟩).isSome = true ∧ W.frozen? ⟨w.heap.size, i, none⟩ = false
  sz : w.heap.size < W.heap.size
  bel : Below w.heap.size w W
theorem Fb.push {w W : World} {t : List UInt8} (h : Fb w W t) (c : UInt8) (k : Nat) (hk : k + t.length + 1 = 65) : Fb w (W.setCell ⟨w.heap.size, k, none⟩ (.int .u8 (c.toNat : Int))) (c :: t) := by
  have hs := (h.th k (by omega)).1
  refine ⟨by simp; omega, fun i h1 h2 => ?_, fun i hi => ?_, by simpa using h.sz, h.bel.setCell (by simp) _⟩
  · by_cases hik : i = k
    · subst hik
      rw [World.cell?_setCell_same' _ _ _ hs]
      rw [show i - (65 - (c :: t).length) = 0 by simp; omega]
      rfl
    · simp only [List.length_cons] at h1
      rw [World.cell?_setCell_other _ _ _ _ (by intro e; exact hik (by cases e; rfl)), h.at_ i (by omega) h2]
      simp only [List.length_cons]
      rw [show i - (65 - (t.length + 1)) = (i - (65 - t.length)) + 1 by omega]
      rfl
  · refine ⟨?_, by rw [World.frozen?_setCell]; exact (h.th i hi).2⟩
    by_cases hik : i = k
    · subst hik
      rw [World.cell?_setCell_same' _ _ _ hs]; rfl
    · rw [World.cell?_setCell_other _ _ _ _ (by intro e; exact hik (by cases e; rfl))]
      exact (h.th i hi).1
theorem Fb.keep {w W W1 : World} {t : List UInt8} (h : Fb w W t) (hb : Below W.heap.size W W1) : Fb w W1 t := by
  have hc : ∀ i, W1.cell? ⟨w.heap.size, i, none⟩ = W.cell? ⟨w.heap.size, i, none⟩ := fun i => by unfold World.cell?; rw [hb.block _ h.sz]
  have hf : ∀ i, W1.frozen? ⟨w.heap.size, i, none⟩ = W.frozen? ⟨w.heap.size, i, none⟩ := fun i => by unfold World.frozen?; rw [hb.block _ h.sz]
  exact ⟨h.le, fun i h1 h2 => by rw [hc]; exact h.at_ i h1 h2, fun i hi => by rw [hc, hf]; exact h.th i hi, Nat.lt_of_lt_of_le h.sz hb.size, below_then h.bel (Nat.le_of_lt h.sz) hb⟩
theorem Fb.conv {w W : World} {t : List UInt8} (h : Fb w W t) (k n c : Nat) (hk : k + t.length = 65) (hn : n = t.length) : (convert 45 9 (.slice (some ⟨w.heap.size, k, none⟩) n c)).run Tryd.prog W = .ok (.string (mkB t)) W := by
  subst hn
  have := run_convert_bytes_arg (P := Tryd.prog) W 45 5 Tryd.underlying45 Tryd.underlying5 w.heap.size k t.length c (t.map fun c : UInt8 => (c.toNat : Int)) (by simp) (fun i hi => by
    have := h.at_ (k + i) (by omega) (by omega)
    rw [this]
    rw [show k + i - (65 - t.length) = i by omega]
    simp [List.getD_eq_getElem?_getD, List.getElem?_eq_getElem hi]) 9 Tryd.underlying9
  refine this.trans ?_
  have e : strOfNums (t.map fun c : UInt8 => (c.toNat : Int)) = mkB t := by
    unfold strOfNums mkB
    rw [List.map_map]
    have e2 : t.map ((fun n : Int => UInt8.ofNat n.toNat) ∘ fun c : UInt8 => (c.toNat : Int)) = t := by
      conv => rhs; rw [← List.map_id t]
      exact List.map_congr_left fun c _ => by simp
    rw [e2]
  rw [e]
theorem Fb.start (w : World) : Fb w (w.alloc (.cells Tryd.zeroCells99 99)) [] := by
  have hz : Tryd.zeroCells99.size = 65 := by kernel_rfl
  refine ⟨by simp, fun i h1 h2 => by simp at h1; omega, fun i hi => ⟨?_, by simp⟩, by simp, below_alloc (Below.refl _ _) _⟩
  rw [World.cell?_alloc_new, Array.getElem?_eq_getElem (by omega)]
  rfl
theorem idx36 (d : Nat) (hd : d < 16) (w : World) : (Instr.index 9 (.string ⟨#[48, 49, 50, 51, 52, 53, 54, 55, 56, 57, 97, 98, 99, 100, 101, 102, 103, 104, 105, 106, 107, 108, 109, 110, 111, 112, 113, 114, 115, 116, 117, 118, 119, 120, 121, 122]⟩) (.int .u64 (d : Int))).run Tryd.prog w = .ok (.int .u8 ((hexc d).toNat : Int)) w := by
  rcases (by omega : d = 0 ∨ d = 1 ∨ d = 2 ∨ d = 3 ∨ d = 4 ∨ d = 5 ∨ d = 6 ∨ d = 7 ∨ d = 8 ∨ d = 9 ∨ d = 10 ∨ d = 11 ∨ d = 12 ∨ d = 13 ∨ d = 14 ∨ d = 15) with rfl | rfl | rfl | rfl | rfl | rfl | rfl | rfl | rfl | rfl | rfl | rfl | rfl | rfl | rfl | rfl
  all_goals kernel_rfl
set_option maxHeartbeats 1000000 in
theorem slA (b k : Nat) (hk : k ≤ 64) (w : World) : (Instr.sliceAt 99 (.pointer (some ⟨b, 0, none⟩)) (some (.int .i64 (k : Int))) none none).run Tryd.prog w = .ok (.slice (some ⟨b, k, none⟩) (65 - k) (65 - k)) w := by
  have hu : Tryd.prog.underlying 99 = some (.array (Tryd.prog.arrayLen 99) (Tryd.prog.elem 99)) := by kernel_rfl
  have hl : Tryd.prog.arrayLen 99 = 65 := by kernel_rfl
  have hs : ∀ w, (sizeOf (Tryd.prog.elem 99)).run Tryd.prog w = .ok 1 w := fun w => by kernel_rfl
  rw [run_sliceAt_array_l w _ _ hu .i64 (k : Int) (by omega) (by rw [hl]; omega), hs]
  simp only [Result.andThen, slicedAt, hl, Int.toNat_natCast]
  rw [if_neg (by omega)]
  unfold Addr.add
  split
  · next h => rw [show k = 0 by omega]
  · simp
set_option maxRecDepth 4000 in
theorem fmt16 (n : Nat) (hn : n < 18446744073709551616) (w : World) (hG : W16 w) :
    Calls Tryd.prog 59 #[.slice none 0 0, .int .u64 (n : Int), .int .i64 16, .bool false, .bool false] w fun e w' => e = .returned (.tuple #[.slice none 0 0, .string (mkB (digs 16 n))]) ∧ Below w.heap.size w w' := by
  have HG := Lib.hid hG
  clear hG
  go_enter Tryd.func59, Tryd.ntmps59
  go_wp2_with (first | (go_at_call 72; refine (isPow16 _).mono ?_; rintro e w' ⟨rfl, hw⟩; subst hw) | (go_at_call 73; refine (tz_16 _ (HG.out.keep (below_alloc (Below.refl _ _) _))).mono ?_; rintro e w' ⟨rfl, hw⟩; subst hw))
  have HF := Fb.start w
  generalize w.alloc (Obj.cells Tryd.zeroCells99 99) = W at HF ⊢
  go_loopg [1, 13] (n + 2) (fun kq v1 v13 w' => ∃ (m k : Nat) (t : List UInt8), v1 = .int .u64 (m : Int) ∧ v13 = .int .i64 (k : Int) ∧ Aside0 (digs 16 m ++ t = digs 16 n) ∧ Aside0 (m < kq) ∧ m ≤ n ∧ Aside0 (k + t.length = 65) ∧ k ≤ 65 ∧ Aside0 (Fb w w' t))
  case atStart => exact ⟨n, 65, [], rfl, rfl, ⟨by simp⟩, ⟨by omega⟩, Nat.le_refl _, ⟨rfl⟩, Nat.le_refl _, ⟨HF⟩⟩
  case round =>
    clear HF
    obtain ⟨m, k, t, rfl, rfl, HO, HK, hmn, HT, hk65, HF⟩ := hrel
    have hL : (digs 16 m).length + t.length ≤ 65 := by
      have h1 := digs_length 16 (by decide) 64 n hn
      rw [← HO.out, List.length_append] at h1
      exact h1
    have hL1 : 1 ≤ (digs 16 m).length := List.length_pos_iff.2 (digs_ne 16 m)
    obtain ⟨k, rfl⟩ : ∃ k1, k = k1 + 1 := ⟨k - 1, by have := HT.out; omega⟩
    obtain ⟨⟨x0, hx0⟩, hx1⟩ : (∃ x0, wr.cell? ⟨w.heap.size, k, none⟩ = some x0) ∧ wr.frozen? ⟨w.heap.size, k, none⟩ = false := ⟨Option.isSome_iff_exists.1 (HF.out.th k (by omega)).1, (HF.out.th k (by omega)).2⟩
    have hkk : (((k + 1 : Nat) : Int)) = (k : Int) + 1 := by omega
    have hk64 : k ≤ 64 := by omega
    rw [hkk]
    have hd : m % 16 < 16 := Nat.mod_lt _ (by decide)
    have hand : bits .and .u64 (m : Int) 15 = ((m % 16 : Nat) : Int) := by
      rw [show (15 : Int) = ((15 : Nat) : Int) from rfl, bits_and_u64_nat m 15 (by omega) (by omega), show 15 = 2 ^ 4 - 1 from rfl, Nat.and_two_pow_sub_one_eq_mod]
    cases gk with
    | zero => exact absurd HK.out (by omega)
    | succ k1 =>
      by_cases hz : m < 16
      · have hb1 : decide ((16 : Int) ≤ (m : Int)) = false := decide_eq_false (by omega)
        have hO := HO.out
        rw [digs_small hz] at hO
        have HO2 := Aside0.mk hO
        have hsc2 := idx36 m hz
        have HF2 := Aside0.mk (HF.out.push (hexc m) k (by have := HT.out; omega))
        clear hO HO HK HF hL hL1 hd hand
        have HC : ∀ W' n' c', Fb w W' (hexc m :: t) → n' = (hexc m :: t).length → (convert 45 9 (.slice (some ⟨w.heap.size, k, none⟩) n' c')).run Tryd.prog W' = .ok (.string (mkB (digs 16 n))) W' := fun W' n' c' hF hn' => by
          rw [hF.conv k n' c' (by have := HT.out; simp; omega) hn']
          rw [show hexc m :: t = digs 16 n from HO2.out]
        have HL2 : (mkB (digs 16 n)).size ≤ 65 := by rw [mkB_size]; exact digs_length 16 (by decide) 64 n hn
        have hsl := slA w.heap.size k hk64
        generalize hexc m = cx at hsc2 HF2 HC
        clear HO2
        have hcv := HC _ (65 - k) (65 - k) HF2.out (by have := HT.out; simp; omega)
        clear HC
        go_wp2_with fail
        go_ret2
        exact ⟨rfl, HF2.out.bel⟩
      · have hb1 : decide ((16 : Int) ≤ (m : Int)) = true := decide_eq_true (by omega)
        have hO := HO.out
        rw [digs_step (by decide) (by omega)] at hO
        have HO2 : Aside0 (digs 16 (m / 16) ++ (hexc (m % 16) :: t) = digs 16 n) := ⟨by rw [← hO]; simp⟩
        have hl2 : (digs 16 m).length = (digs 16 (m / 16)).length + 1 := by rw [digs_step (by decide) (by omega)]; simp
        have hl3 : 1 ≤ (digs 16 (m / 16)).length := List.length_pos_iff.2 (digs_ne 16 _)
        have hsc2 := idx36 (m % 16) hd
        have HF2 := Aside0.mk (HF.out.push (hexc (m % 16)) k (by have := HT.out; omega))
        have HV : Aside0 ((m : Int) / 16 = ((m / 16 : Nat) : Int)) := ⟨by omega⟩
        have HK2 := Aside0.mk (show m / 16 < k1 from by have := HK.out; omega)
        have hm16 : m / 16 ≤ n := by omega
        have HT2 : Aside0 (k + (hexc (m % 16) :: t).length = 65) := ⟨by have := HT.out; simp; omega⟩
        generalize m % 16 = d at *
        clear hO HO HK HF hL hL1 hl2 hl3 hz
        generalize hexc d = cx at hsc2 HF2 HO2 HT2
        go_wp2_with fail
        go_roundg k1
        case measure => omega
        case rel => exact ⟨m / 16, k, cx :: t, by rw [HV.out], rfl, HO2, HK2, hm16, HT2, by omega, HF2⟩
/-! ### internal/strconv.FormatUint, FormatInt -/
end Go.Proofs.YtikhoooiklkbiaaDoor.Pr
namespace Go.Proofs.YtikhoooiklkbiaaDoor.Pr
open Go.RowKit Go.Proofs.YtikhoooiklkbiaaDoorW.PrintWords Go.Proofs.YtikhoooiklkbiaaDoorW.PrintLast Go.Proofs.YtikhoooiklkbiaaDoorW.PrintMore
set_option linter.unusedVariables false
set_option linter.unusedSimpArgs false

/-! ### The table that math/bits reads, out of the row -/
abbrev WG (w : World) : Prop := W16 w
theorem WG.keep {w w1 : World} (h : WG w) (hb : Below w.heap.size w w1) : WG w1 := W16.keep h hb
theorem tabIs_of_reads {P : Program} {W : World} {name : String} {k : IntKind} {zs : List Int} {g : Nat} {t e : TypeId} {n : Nat}
    (hg : P.globalNamed name = some g) (hty : (P.globals[g]?).map (·.type) = some t) (ht : P.underlying t = some (.array n e)) (he : P.underlying e = some (.int k)) (hce : P.cellsOf e = 1) (hct : P.cellsOf t = n)
    (h : Lib.VarReads P W name (Lib.tabData k zs)) : Lib.TabIs P W name k zs := by
  obtain ⟨g', t', cs, fuel, p, hg', ht', hvar, hd⟩ := h
  obtain rfl := Option.some.inj (hg.symm.trans hg')
  obtain rfl := Option.some.inj (hty.symm.trans ht')
  unfold Lib.TabIs
  rw [hvar, ← Lib.cells_of_tab ht he hce hct hd]
def bruData : DataW Unit := Lib.tabData .u8 (Lib.deBruijn64tab.map fun n : Nat => (n : Int))
theorem WG.of {W : World} {l : List (String × DataW Unit)} (h : laidMet Tryd.prog l W) (hm : ("math/bits.deBruijn64tab", bruData) ∈ l) : WG W := by
  have ht := tabIs_of_reads (g := 2) (t := 111) (e := 5) (n := 64) (by kernel_rfl) (by kernel_rfl) (by kernel_rfl) (by kernel_rfl) (by kernel_rfl) (by kernel_rfl) (Lib.laidMet.reads h hm)
  have hg : Tryd.prog.globalNamed "math/bits.deBruijn64tab" = some 2 := by kernel_rfl
  have hc := ht.cell hg 15 (by decide)
  refine ⟨by rw [hc]; rfl, World.block_lt_of_cell? _ _ hc⟩
end Go.Proofs.YtikhoooiklkbiaaDoor.Pr
namespace Go.Proofs.YtikhoooiklkbiaaDoor.Pr
open Go.RowKit Go.Proofs.YtikhoooiklkbiaaDoorW.PrintWords Go.Proofs.YtikhoooiklkbiaaDoorW.PrintLast Go.Proofs.YtikhoooiklkbiaaDoorW.PrintMore
set_option linter.unusedVariables false
set_option linter.unusedSimpArgs false

/-! ### A number by 16 put behind bytes -/
def ints (t : List UInt8) : List Int := t.map fun c => (c.toNat : Int)
theorem ints_append (a b : List UInt8) : ints (a ++ b) = ints a ++ ints b := List.map_append
theorem ints_length (t : List UInt8) : (ints t).length = t.length := List.length_map _
/-- What a call that appends leaves: a row of its own base, all else as it was. -/
def AppP (P0 : Nat → Prop) (w0 w w' : World) (v : Value) (l : List Int) : Prop := Kd.R (Kd.int .u8) 5 w' w0.heap.size (fun k_ => (P0 k_ ∨ w.heap.size ≤ k_)) v l ∧ Below w0.heap.size w0 w' ∧ Kept w w' (fun k_ => P0 k_)
theorem Fb.row {w W : World} {t : List UInt8} (h : Fb w W t) (k : Nat) (hk : k + t.length = 65) : Kd.C (Kd.int .u8) W (some ⟨w.heap.size, k, none⟩) (65 - k) (ints t) := by
  refine ⟨by rw [ints_length]; omega, by omega, fun _ => ⟨_, rfl, fun j p hp => ⟨[.int .u8 p], rfl, rfl, fun i u hu => ?_⟩⟩⟩
  have hj : j < t.length := by have := (List.getElem?_eq_some_iff.1 hp).1; rw [ints_length] at this; exact this
  have hi : i < 1 := (List.getElem?_eq_some_iff.1 hu).1
  obtain rfl : i = 0 := by omega
  obtain rfl : (Value.int .u8 p) = u := Option.some.inj hu
  have hsz : (Kd.int .u8).sz = 1 := rfl
  have he : Addr.add ⟨w.heap.size, k, none⟩ (j * 1 + 0) = ⟨w.heap.size, k + j, none⟩ := by unfold Addr.add; split <;> simp <;> omega
  rw [hsz, he, h.at_ (k + j) (by omega) (by omega), show k + j - (65 - t.length) = j by omega]
  unfold ints at hp
  rw [List.getElem?_map, List.getElem?_eq_getElem hj] at hp
  rw [List.getD_eq_getElem?_getD, List.getElem?_eq_getElem hj]
  exact congrArg (fun x => some (Value.int .u8 x)) (Option.some.inj hp)
set_option maxRecDepth 4000 in
set_option maxHeartbeats 1000000 in
theorem fmt16a (n : Nat) (hn : n < 18446744073709551616) (P0 : Nat → Prop) (v : Value) (l0 : List Int) (w0 w : World) (hB : Below w0.heap.size w0 w) (ho0 : Kd.R (Kd.int .u8) 5 w w0.heap.size P0 v l0) (hl0 : l0.length ≤ 1000000000) (hG : W16 w) :
    Calls Tryd.prog 59 #[v, .int .u64 (n : Int), .int .i64 16, .bool false, .bool true] w fun e w' => ∃ v1 : Value, e = .returned (.tuple #[v1, .string ⟨#[]⟩]) ∧ AppP P0 w0 w w' v1 (l0 ++ ints (digs 16 n)) := by
  have HG := Lib.hid hG
  have HR := Aside0.mk ho0
  have HB := Aside0.mk hB
  have HL := Aside0.mk hl0
  obtain ⟨A0, c0, rfl⟩ := Kd.R_slice ho0
  clear hG ho0 hB hl0
  go_enter Tryd.func59, Tryd.ntmps59
  go_wp2_with (first | (go_at_call 72; refine (isPow16 _).mono ?_; rintro e w' ⟨rfl, hw⟩; subst hw) | (go_at_call 73; refine (tz_16 _ (HG.out.keep (below_alloc (Below.refl _ _) _))).mono ?_; rintro e w' ⟨rfl, hw⟩; subst hw))
  have HF := Fb.start w
  generalize w.alloc (Obj.cells Tryd.zeroCells99 99) = W at HF ⊢
  go_loopg [1, 13] (n + 2) (fun kq v1 v13 w' => ∃ (m k : Nat) (t : List UInt8), v1 = .int .u64 (m : Int) ∧ v13 = .int .i64 (k : Int) ∧ Aside0 (digs 16 m ++ t = digs 16 n) ∧ Aside0 (m < kq) ∧ m ≤ n ∧ Aside0 (k + t.length = 65) ∧ k ≤ 65 ∧ Aside0 (Fb w w' t))
  case atStart => exact ⟨n, 65, [], rfl, rfl, ⟨by simp⟩, ⟨by omega⟩, Nat.le_refl _, ⟨rfl⟩, Nat.le_refl _, ⟨HF⟩⟩
  case round =>
    clear HF
    obtain ⟨m, k, t, rfl, rfl, HO, HK, hmn, HT, hk65, HF⟩ := hrel
    have hL : (digs 16 m).length + t.length ≤ 65 := by
      have h1 := digs_length 16 (by decide) 64 n hn
      rw [← HO.out, List.length_append] at h1
      exact h1
    have hL1 : 1 ≤ (digs 16 m).length := List.length_pos_iff.2 (digs_ne 16 m)
    obtain ⟨k, rfl⟩ : ∃ k1, k = k1 + 1 := ⟨k - 1, by have := HT.out; omega⟩
    obtain ⟨⟨x0, hx0⟩, hx1⟩ : (∃ x0, wr.cell? ⟨w.heap.size, k, none⟩ = some x0) ∧ wr.frozen? ⟨w.heap.size, k, none⟩ = false := ⟨Option.isSome_iff_exists.1 (HF.out.th k (by omega)).1, (HF.out.th k (by omega)).2⟩
    have hkk : (((k + 1 : Nat) : Int)) = (k : Int) + 1 := by omega
    have hk64 : k ≤ 64 := by omega
    rw [hkk]
    have hd : m % 16 < 16 := Nat.mod_lt _ (by decide)
    have hand : bits .and .u64 (m : Int) 15 = ((m % 16 : Nat) : Int) := by
      rw [show (15 : Int) = ((15 : Nat) : Int) from rfl, bits_and_u64_nat m 15 (by omega) (by omega), show 15 = 2 ^ 4 - 1 from rfl, Nat.and_two_pow_sub_one_eq_mod]
    cases gk with
    | zero => exact absurd HK.out (by omega)
    | succ k1 =>
      by_cases hz : m < 16
      · have hb1 : decide ((16 : Int) ≤ (m : Int)) = false := decide_eq_false (by omega)
        have hO := HO.out
        rw [digs_small hz] at hO
        have HO2 := Aside0.mk hO
        have hsc2 := idx36 m hz
        have HF2 := Aside0.mk (HF.out.push (hexc m) k (by have := HT.out; omega))
        clear hO HO HK HF hL hL1 hd hand
        have HE : Aside0 (hexc m :: t = digs 16 n) := HO2
        have hkl : Aside0 (k + (hexc m :: t).length = 65) := ⟨by have := HT.out; simp; omega⟩
        have hsl := slA w.heap.size k hk64
        generalize hexc m = cx at hsc2 HF2 HE hkl
        clear HO2
        have HC := Aside0.mk (HF2.out.row k hkl.out)
        have hkle : Aside0 (65 - k ≤ 65) := ⟨by omega⟩
        have HX : Aside0 (Kd.R (Kd.int .u8) 5 (wr.setCell ⟨w.heap.size, k, none⟩ (.int .u8 (cx.toNat : Int))) w0.heap.size (fun k_ => (P0 k_ ∨ w.heap.size ≤ k_)) (.slice A0 l0.length c0) l0) := ⟨Kd.R_mono (Kd.R_below HR.out HF2.out.bel) (fun _ hk => .inl hk)⟩
        have HBX : Aside0 (Below w0.heap.size w0 (wr.setCell ⟨w.heap.size, k, none⟩ (.int .u8 (cx.toNat : Int)))) := ⟨below_step HB.out HF2.out.bel⟩
        have HKX : Aside0 (Kept w (wr.setCell ⟨w.heap.size, k, none⟩ (.int .u8 (cx.toNat : Int))) (fun k_ => P0 k_)) := ⟨Kept.of_below HF2.out.bel _⟩
        have HZ : Aside0 (w0.heap.size ≤ (wr.setCell ⟨w.heap.size, k, none⟩ (.int .u8 (cx.toNat : Int))).heap.size) := ⟨below_size HBX.out⟩
        clear HF2
        go_wp2_with ((with_reducible refine gate_builtin (b := .append) (xs := #[.tmp 95, .tmp 97]) rfl ?_); at_builtin; refine Kd.R_append_rows (Kd.int .u8) (w0 := w0) w0.heap.size rfl (.tmp 95) (.tmp 97) 45 5 (.int .u8 0) 1 rfl Tryd.underlying45 info5 rfl (by decide) (by omega) (.slice A0 l0.length c0) l0 (ints (cx :: t)) (some ⟨w.heap.size, k, none⟩) _ _ (fun k_ => P0 k_ ∨ w.heap.size ≤ k_) (fun _ => False) rfl rfl HX.out HC.out (fun _ _ h => h) (fun _ h => h.elim) (fun k_ hk_ => .inr (Nat.le_trans HKX.out.1 hk_)) HBX.out HZ.out (by have := HL.out; have := hkle.out; omega) ?_; intro v1 w1 ho hbb hg hat)
        go_ret2
        rw [HE.out] at ho
        exact ⟨v1, rfl, ho, hbb, Kept.of_grown hg HKX.out (fun k_ hk_ => HX.out.1 k_ hk_)⟩
      · have hb1 : decide ((16 : Int) ≤ (m : Int)) = true := decide_eq_true (by omega)
        have hO := HO.out
        rw [digs_step (by decide) (by omega)] at hO
        have HO2 : Aside0 (digs 16 (m / 16) ++ (hexc (m % 16) :: t) = digs 16 n) := ⟨by rw [← hO]; simp⟩
        have hl2 : (digs 16 m).length = (digs 16 (m / 16)).length + 1 := by rw [digs_step (by decide) (by omega)]; simp
        have hl3 : 1 ≤ (digs 16 (m / 16)).length := List.length_pos_iff.2 (digs_ne 16 _)
        have hsc2 := idx36 (m % 16) hd
        have HF2 := Aside0.mk (HF.out.push (hexc (m % 16)) k (by have := HT.out; omega))
        have HV : Aside0 ((m : Int) / 16 = ((m / 16 : Nat) : Int)) := ⟨by omega⟩
        have HK2 := Aside0.mk (show m / 16 < k1 from by have := HK.out; omega)
        have hm16 : m / 16 ≤ n := by omega
        have HT2 : Aside0 (k + (hexc (m % 16) :: t).length = 65) := ⟨by have := HT.out; simp; omega⟩
        generalize m % 16 = d at *
        clear hO HO HK HF hL hL1 hl2 hl3 hz
        generalize hexc d = cx at hsc2 HF2 HO2 HT2
        go_wp2_with fail
        go_roundg k1
        case measure => omega
        case rel => exact ⟨m / 16, k, cx :: t, by rw [HV.out], rfl, HO2, HK2, hm16, HT2, by omega, HF2⟩
theorem appUint16 (n : Nat) (hn : n < 18446744073709551616) (P0 : Nat → Prop) (v : Value) (l0 : List Int) (w0 w : World) (hB : Below w0.heap.size w0 w) (ho0 : Kd.R (Kd.int .u8) 5 w w0.heap.size P0 v l0) (hl0 : l0.length ≤ 1000000000) (hG : W16 w) :
    Calls Tryd.prog 52 #[v, .int .u64 (n : Int), .int .i64 16] w fun e w' => ∃ v1 : Value, e = .returned v1 ∧ AppP P0 w0 w w' v1 (l0 ++ ints (digs 16 n)) := by
  have HF := Lib.hid (fmt16a n hn P0 v l0 w0 w hB ho0 hl0 hG)
  clear hG hB ho0 hl0
  generalize l0 ++ ints (digs 16 n) = r at HF ⊢
  go_enter Tryd.func52, Tryd.ntmps52
  go_wp2_with (go_at_call 59; refine HF.out.mono ?_; rintro e w' ⟨v1, rfl, hb⟩)
  go_ret
  exact ⟨v1, rfl, hb⟩
theorem appInt16_in (n : Nat) (hn : n < 9223372036854775808) (P0 : Nat → Prop) (v : Value) (l0 : List Int) (w0 w : World) (hB : Below w0.heap.size w0 w) (ho0 : Kd.R (Kd.int .u8) 5 w w0.heap.size P0 v l0) (hl0 : l0.length ≤ 1000000000) (hG : W16 w) :
    Calls Tryd.prog 44 #[v, .int .i64 (n : Int), .int .i64 16] w fun e w' => ∃ v1 : Value, e = .returned v1 ∧ AppP P0 w0 w w' v1 (l0 ++ ints (digs 16 n)) := by
  have HF := Lib.hid (appUint16 n (by omega) P0 v l0 w0 w hB ho0 hl0 hG)
  have e1 : decide ((n : Int) < 0) = false := decide_eq_false (by omega)
  clear hG hB ho0 hl0
  generalize l0 ++ ints (digs 16 n) = r at HF ⊢
  go_enter Tryd.func44, Tryd.ntmps44
  go_wp2_with (go_at_call 52; refine HF.out.mono ?_; rintro e w' ⟨v1, rfl, hb⟩)
  go_ret
  exact ⟨v1, rfl, hb⟩
def strconv_AppendInt_29.f (l0 : List Int) (a1 a2 : Int) : Option (List Int) := if 0 ≤ a1 ∧ a1 < 9223372036854775808 ∧ a2 = 16 ∧ l0.length ≤ 1000000000 then some (l0 ++ ints (digs 16 a1.toNat)) else none
theorem strconv_AppendInt_29.calls (P0_ : Nat → Prop) (u9000_ : Value) (l0 : List Int) (a1 a2 : Int) (r : List Int) (w0 w : World) (hB : Below w0.heap.size w0 w) (ho0 : Kd.R (Kd.int .u8) 5 w w0.heap.size P0_ u9000_ l0) (h : strconv_AppendInt_29.f l0 a1 a2 = some r) (hG : WG w) :
    Calls Tryd.prog 29 #[u9000_, .int .i64 a1, .int .i64 a2] w fun e w' => ∃ v0_ : Value, e = .returned v0_ ∧ Kd.R (Kd.int .u8) 5 w' w0.heap.size (fun k_ => (P0_ k_ ∨ w.heap.size ≤ k_)) v0_ r ∧ Below w0.heap.size w0 w' ∧ Kept w w' (fun k_ => P0_ k_) := by
  unfold strconv_AppendInt_29.f at h
  split at h
  · next hc =>
    obtain ⟨h0, h1, rfl, hl⟩ := hc
    obtain rfl := Option.some.inj h
    obtain ⟨n, rfl⟩ := Int.eq_ofNat_of_zero_le h0
    rw [Int.toNat_natCast]
    have HF := Lib.hid (appInt16_in n (by omega) P0_ u9000_ l0 w0 w hB ho0 hl hG)
    clear hG hB ho0 hl h h0 h1
    generalize l0 ++ ints (digs 16 n) = r at HF ⊢
    go_enter Tryd.func29, Tryd.ntmps29
    go_wp2_with (go_at_call 44; refine HF.out.mono ?_; rintro e w' ⟨v1, rfl, hb⟩)
    go_ret
    exact ⟨v1, rfl, hb⟩
  · cases h
end Go.Proofs.YtikhoooiklkbiaaDoor.Pr
