import Derived.Test.YtlnlfglhboccpaaDoorShelf
import Derived.Test.YtlnlfglhboccpaaDoorPr0
import Derived.Test.YtlnlfglhboccpaaDoorPrA1
import Derived.Lib.ConvBytes
import Derived.IntWalk
import Derived.Lib.Hide
namespace Go.Proofs.YtlnlfglhboccpaaDoor.Pr
open Go.RowKit Go.Proofs.YtlnlfglhboccpaaDoorW.PrintWords Go.Proofs.YtlnlfglhboccpaaDoorW.PrintLast Go.Proofs.YtlnlfglhboccpaaDoorW.PrintMore
set_option linter.unusedVariables false
set_option linter.unusedSimpArgs false

/-! ### The digits of a base -/
def hexS : List UInt8 := [48, 49, 50, 51, 52, 53, 54, 55, 56, 57, 97, 98, 99, 100, 101, 102]
/-- What strings.IndexByte tells of a small digit; -1. -/
def hexi (c : UInt8) : Int := if 48 ≤ c.toNat ∧ c.toNat ≤ 57 then (c.toNat : Int) - 48 else if 97 ≤ c.toNat ∧ c.toNat ≤ 102 then (c.toNat : Int) - 87 else -1
theorem hexi_all : ((List.range 256).all fun n => decide (Lib.indexByte hexS (Int.ofNat n).toNat.toUInt8 = hexi n.toUInt8)) = true := by decide +kernel
theorem hexi_eq (c : UInt8) : Lib.indexByte hexS (c.toNat : Int).toNat.toUInt8 = hexi c := by
  have h := of_decide_eq_true (List.all_eq_true.1 hexi_all c.toNat (List.mem_range.2 (UInt8.toNat_lt c)))
  have e : c.toNat.toUInt8 = c := by simp
  rw [e] at h
  exact h
def u64top : Int := 18446744073709551615
/-- A digit's value; 99 and more: it is none. -/
def digV (c : UInt8) : Int := if 65 ≤ c.toNat ∧ c.toNat ≤ 70 then (c.toNat : Int) - 55 else if hexi c < 0 then u64top else hexi c
def rdL (base : Int) : List UInt8 → Int → Int × Bool
  | [], n => (n, true)
  | c :: l, n => if base ≤ digV c then (0, false) else rdL base l (min (n * base + digV c) 4294967296)
theorem rdL_drop (base : Int) (s : ByteArray) (k : Nat) (h : k < s.size) (n : Int) : rdL base (s.data.toList.drop k) n = if base ≤ digV s[k] then (0, false) else rdL base (s.data.toList.drop (k + 1)) (min (n * base + digV s[k]) 4294967296) := by
  rw [List.drop_eq_getElem_cons (by simpa using h)]; rfl
theorem hexi_bd (c : UInt8) : -1 ≤ hexi c ∧ hexi c ≤ 15 := by unfold hexi; split <;> (try split) <;> omega
theorem bytes_below (w : World) (s : ByteArray) : Below w.heap.size w (Lib.bytesWorld w 5 s) :=
  ⟨rfl, rfl, rfl, by have := Lib.bytesWorld_size w 5 s; omega, fun i hi => Lib.bytesWorld_at_old w 5 s i hi⟩
theorem tup2 {a b : Int} {c d : Bool} (h : (a, c) = (b, d)) : Ending.returned (.tuple #[.int .u64 a, .bool c]) = .returned (.tuple #[.int .u64 b, .bool d]) := by
  obtain ⟨rfl, rfl⟩ := Prod.mk.inj h; rfl
theorem idx_calls (c : UInt8) (w : World) : Calls Tryd.prog 25 #[.string ⟨#[48, 49, 50, 51, 52, 53, 54, 55, 56, 57, 97, 98, 99, 100, 101, 102]⟩, .int .u8 (c.toNat : Int)] w fun e w' => e = .returned (.int .i64 (hexi c)) ∧ w = w' := by
  refine (Tryd.strings_IndexByte ⟨#[48, 49, 50, 51, 52, 53, 54, 55, 56, 57, 97, 98, 99, 100, 101, 102]⟩ (c.toNat : Int) w).mono fun e w' ⟨h1, h2⟩ => ⟨?_, h2.symm⟩
  rw [h1, ← hexi_eq c]; rfl
set_option maxHeartbeats 1000000 in
theorem reader1_any (base : Int) (hb1 : 2 ≤ base) (hb2 : base ≤ 16) (s : ByteArray) (p : Addr) (w : World) (hp : p.block < w.heap.size) (hc : w.cell? p = some (.int .u64 base)) (hs : s.size ≤ 140737488351232) :
    Calls Tryd.prog 24 #[.string s, .pointer (some p)] w fun e w' => e = .returned (.tuple #[.int .u64 (rdL base s.data.toList 0).1, .bool (rdL base s.data.toList 0).2]) ∧ Below w.heap.size w w' := by
  have hcs := fun (W : World) => Lib.run_convert_string_bytes (P := Tryd.prog) W 9 51 5 s Tryd.underlying9 Tryd.underlying51 Tryd.underlying5
  have hcp : (Lib.bytesWorld w 5 s).cell? p = some (.int .u64 base) := by rw [Lib.bytesWorld_old w 5 s p hp]; exact hc
  have HB := Lib.hid (bytes_below w s)
  go_enter Tryd.func24, Tryd.ntmps24
  go_wp2
  go_loop [3, 11] (fun n i => ∃ (k : Nat) (a : Int), k ≤ s.size ∧ 0 ≤ a ∧ a ≤ 4294967296 ∧ i = .int .i64 k ∧ n = .int .u64 a ∧ Hid (rdL base (s.data.toList.drop k) a = rdL base s.data.toList 0)) (fun _ i => s.size - (intOf i).toNat)
  case atStart => exact ⟨0, 0, Nat.zero_le _, Int.le_refl _, by decide, rfl, rfl, Lib.hid rfl⟩
  case round =>
    obtain ⟨k, a, hk, ha0, ha1, rfl, rfl, HR⟩ := hrel
    by_cases hlt : k < s.size
    · have hcell : (Lib.bytesWorld w 5 s).cell? ⟨w.heap.size, k, none⟩ = some (.int .u8 (s[k].toNat : Int)) := by
        rw [Lib.bytesWorld_cell w 5 s k hlt]
        simp [List.getD, hlt]; rfl
      have hst := rdL_drop base s k hlt a
      rw [HR.out] at hst
      generalize s[k] = c at hcell hst
      have hc0 : (c.toNat : Int) < 256 := by have := UInt8.toNat_lt c; omega
      have hx := hexi_bd c
      by_cases hA : 65 ≤ c.toNat ∧ c.toNat ≤ 70
      · have hd : digV c = (c.toNat : Int) - 55 := by unfold digV; rw [if_pos hA]
        have h1 : decide ((65 : Int) ≤ (c.toNat : Int)) = true := by simp; omega
        have h2 : decide ((c.toNat : Int) ≤ 70) = true := by simp; omega
        obtain ⟨hA1, hA2⟩ := hA
        rw [hd] at hst
        by_cases hb : base ≤ (c.toNat : Int) - 55
        · have hb' : decide (base ≤ (c.toNat : Int) - 65 + 10) = true := by simp; omega
          rw [if_pos hb] at hst
          have HS := Lib.hid hst
          clear hst hd hb
          have hx2 := hx.1
          clear hx
          go_wp2_with (go_at_call 25; refine (idx_calls c _).mono ?_; rintro e w' ⟨rfl, rfl⟩)
          go_ret2
          exact ⟨tup2 HS.out.symm, HB.out⟩
        · have hb' : decide (base ≤ (c.toNat : Int) - 65 + 10) = false := by simp; omega
          rw [if_neg hb] at hst
          have HS := Lib.hid hst
          have hb2' : (c.toNat : Int) - 55 ≤ 15 := by omega
          have hm0 : 0 ≤ a * base := Int.mul_nonneg ha0 (by omega)
          have hm1 : a * base ≤ 4294967296 * 16 := Int.mul_le_mul ha1 hb2 (by omega) (by omega)
          clear hst hd hb
          have hx2 := hx.1
          clear hx
          go_wp2_with (go_at_call 25; refine (idx_calls c _).mono ?_; rintro e w' ⟨rfl, rfl⟩)
          go_round
          case rel => exact ⟨k + 1, min (a * base + ((c.toNat : Int) - 55)) 4294967296, by omega, by omega, by omega, by go_num, by rw [show (c.toNat : Int) - 65 + 10 = c.toNat - 55 by omega], Lib.hid HS.out.symm⟩
          case measure => simp [intOf]; omega
      · have hA' : (decide ((65 : Int) ≤ (c.toNat : Int)) = false) ∨ (decide ((65 : Int) ≤ (c.toNat : Int)) = true ∧ decide ((c.toNat : Int) ≤ 70) = false) := by
          simp; omega
        have hd : digV c = if hexi c < 0 then u64top else hexi c := by unfold digV; rw [if_neg hA]
        by_cases hn : hexi c < 0
        · have hx1 : hexi c = -1 := by omega
          rw [if_pos hn] at hd
          rw [hd, if_pos (by unfold u64top; omega)] at hst
          have HS := Lib.hid hst
          have hcv : ∀ w, (convert 3 24 (.int .i64 (hexi c))).run Tryd.prog w = .ok (.int .u64 u64top) w := by intro w; rw [hx1]; kernel_rfl
          have hb' : decide (base ≤ u64top) = true := by unfold u64top; simp; omega
          clear hst hd hn hx1 hx hA
          rcases hA' with h1 | ⟨h1, h2⟩
          all_goals
            go_wp2_with (go_at_call 25; refine (idx_calls c _).mono ?_; rintro e w' ⟨rfl, rfl⟩)
            go_ret2
            exact ⟨tup2 HS.out.symm, HB.out⟩
        · rw [if_neg hn] at hd
          rw [hd] at hst
          have hx0 : 0 ≤ hexi c := by omega
          have hx1 := hx.2
          clear hn hd hx hA
          have HI : ∀ w, Calls Tryd.prog 25 #[.string ⟨#[48, 49, 50, 51, 52, 53, 54, 55, 56, 57, 97, 98, 99, 100, 101, 102]⟩, .int .u8 (c.toNat : Int)] w fun e w' => e = .returned (.int .i64 (hexi c)) ∧ w = w' := fun w => idx_calls c w
          generalize hexi c = d at hst hx0 hx1 HI
          replace HI := Lib.hid HI
          by_cases hb : base ≤ d
          · rw [if_pos hb] at hst
            have HS := Lib.hid hst
            have hb' : decide (base ≤ d) = true := decide_eq_true hb
            clear hst hb
            rcases hA' with h1 | ⟨h1, h2⟩
            all_goals
              go_wp2_with (go_at_call 25; refine (HI.out _).mono ?_; rintro e w' ⟨rfl, rfl⟩)
              go_ret2
              exact ⟨tup2 HS.out.symm, HB.out⟩
          · rw [if_neg hb] at hst
            have HS := Lib.hid hst
            have hb' : decide (base ≤ d) = false := decide_eq_false hb
            have hm0 : 0 ≤ a * base := Int.mul_nonneg ha0 (by omega)
            have hm1 : a * base ≤ 4294967296 * 16 := Int.mul_le_mul ha1 hb2 (by omega) (by omega)
            clear hst hb
            rcases hA' with h1 | ⟨h1, h2⟩
            all_goals
              go_wp2_with (go_at_call 25; refine (HI.out _).mono ?_; rintro e w' ⟨rfl, rfl⟩)
              go_round
              case rel => exact ⟨k + 1, min (a * base + d) 4294967296, by omega, by omega, by omega, by go_num, rfl, Lib.hid HS.out.symm⟩
              case measure => simp [intOf]; omega
    · go_wp2
      go_ret2
      rw [List.drop_of_length_le (by simp; omega)] at HR
      exact ⟨tup2 HR.out, HB.out⟩
end Go.Proofs.YtlnlfglhboccpaaDoor.Pr
