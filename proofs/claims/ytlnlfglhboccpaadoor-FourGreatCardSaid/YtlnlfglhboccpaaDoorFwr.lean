import Derived.Test.YtlnlfglhboccpaaDoorFsp
namespace Go.Proofs.YtlnlfglhboccpaaDoor.Pr
open Go.RowKit Go.Proofs.YtlnlfglhboccpaaDoorW.PrintWords Go.Proofs.YtlnlfglhboccpaaDoorW.PrintLast Go.Proofs.YtlnlfglhboccpaaDoorW.PrintMore
set_option linter.unusedVariables false
set_option linter.unusedSimpArgs false

/-! ### Numbers, written -/
def hexc (n : Nat) : UInt8 := hexS.getD n 0
def digs (b : Nat) (n : Nat) : List UInt8 := if h : n < b ∨ b < 2 then [hexc n] else digs b (n / b) ++ [hexc (n % b)]
termination_by n
decreasing_by exact Nat.div_lt_self (by omega) (by omega)
def outL (b m : Nat) (t : List UInt8) : List UInt8 := if t ≠ [] ∧ m = 0 then t else digs b m ++ t
theorem outL_step (b m : Nat) (hb : 2 ≤ b) (t : List UInt8) (h : ¬ (t ≠ [] ∧ m = 0)) : outL b (m / b) (hexc (m % b) :: t) = outL b m t := by
  unfold outL
  rw [if_neg h]
  conv => rhs; rw [digs]
  by_cases hm : m < b
  · rw [dif_pos (.inl hm), if_pos ⟨by simp, Nat.div_eq_of_lt hm⟩, Nat.mod_eq_of_lt hm]; rfl
  · have : m / b ≠ 0 := fun e => by rw [Nat.div_eq_zero_iff] at e; omega
    rw [dif_neg (by omega), if_neg (fun e => this e.2)]
    simp
theorem digs_length (b : Nat) (hb : 2 ≤ b) : ∀ (j n : Nat), n < 2 ^ j → (digs b n).length ≤ j + 1
  | 0, n, h => by
    rw [digs, dif_pos (.inl (by omega))]; simp
  | j + 1, n, h => by
    rw [digs]
    split
    · simp
    · have h2 : n / b ≤ n / 2 := Nat.div_le_div_left hb (by omega)
      have := digs_length b hb j (n / b) (by rw [Nat.pow_succ] at h; omega)
      simp; omega
theorem outL_len {b m : Nat} {t l : List UInt8} (h : outL b m t = l) : t.length ≤ l.length := by
  rw [← h]; unfold outL; split <;> simp
theorem hex_slice (m : Nat) (h : m < 16) : (⟨#[48, 49, 50, 51, 52, 53, 54, 55, 56, 57, 97, 98, 99, 100, 101, 102]⟩ : ByteArray).extract m (m + 1) = mkB [hexc m] := by
  have : ∀ m, m < 16 → (⟨#[48, 49, 50, 51, 52, 53, 54, 55, 56, 57, 97, 98, 99, 100, 101, 102]⟩ : ByteArray).extract m (m + 1) = mkB [hexc m] := by decide +kernel
  exact this m h
theorem mkB_cons (c : UInt8) (t : List UInt8) : mkB [c] ++ mkB t = mkB (c :: t) := by
  rw [← mkB_data (mkB [c] ++ mkB t)]
  congr 1
theorem slc (d : Nat) (hd : d < 16) (w : World) : (Instr.slice 9 (.string ⟨#[48, 49, 50, 51, 52, 53, 54, 55, 56, 57, 97, 98, 99, 100, 101, 102]⟩) (some (.int .u64 (d : Int))) (some (.int .u64 ((d : Int) + 1))) none).run Tryd.prog w = .ok (.string (mkB [hexc d])) w := by
  rcases (by omega : d = 0 ∨ d = 1 ∨ d = 2 ∨ d = 3 ∨ d = 4 ∨ d = 5 ∨ d = 6 ∨ d = 7 ∨ d = 8 ∨ d = 9 ∨ d = 10 ∨ d = 11 ∨ d = 12 ∨ d = 13 ∨ d = 14 ∨ d = 15) with rfl | rfl | rfl | rfl | rfl | rfl | rfl | rfl | rfl | rfl | rfl | rfl | rfl | rfl | rfl | rfl
  all_goals kernel_rfl
theorem size_one (c : UInt8) : (mkB [c]).size = 1 := rfl
/-! walks -/
set_option maxHeartbeats 2000000 in
theorem written_16 (n : Nat) (hn : n < 18446744073709551616) (w : World) :
    Calls Tryd.prog 16 #[.int .u64 (n : Int), .int .u8 0] w fun e w' => e = .returned (.string (⟨#[48, 120]⟩ ++ mkB (digs 16 n))) ∧ Below w.heap.size w w' := by
  have hi1 : ∀ w, (Instr.index 49 (.agg #[.int .u64 16, .int .u64 8, .int .u64 10]) (.int .u8 0)).run Tryd.prog w = .ok (.int .u64 16) w := fun w => by kernel_rfl
  have hi2 : ∀ w, (Instr.index 50 (.agg #[.string ⟨#[48, 120]⟩, .string ⟨#[48]⟩, .string ⟨#[]⟩]) (.int .u8 0)).run Tryd.prog w = .ok (.string ⟨#[48, 120]⟩) w := fun w => by kernel_rfl
  go_enter Tryd.func16, Tryd.ntmps16
  go_wp2
  have HB := Aside0.mk (Below.refl w.heap.size w)
  go_loopg [0, 6] (n + 2) (fun kq v0 v6 w' => ∃ (m : Nat) (t : List UInt8), v0 = .int .u64 (m : Int) ∧ v6 = .string (mkB t) ∧ Aside0 (outL 16 m t = digs 16 n) ∧ Aside0 (m + (if t = [] then 1 else 0) < kq) ∧ m ≤ n ∧ Aside0 (Below w.heap.size w w'))
  case atStart => exact ⟨n, [], rfl, rfl, ⟨by simp [outL]⟩, ⟨by simp⟩, Nat.le_refl _, HB⟩
  case round =>
    clear HB
    obtain ⟨m, t, rfl, rfl, HO, HK, hmn, HB⟩ := hrel
    have hts : (mkB t).size ≤ 65 := by
      have h1 := outL_len HO.out
      have h2 := digs_length 16 (by decide) 64 n hn
      rw [← data_length, data_mkB]; omega
    have hs1 : (9223372036854775807 < 2 + (mkB t).size) = False := eq_false (by omega)
    have hs3 : (9223372036854775807 < 1 + (mkB t).size) = False := eq_false (by omega)
    cases gk with
    | zero => exact absurd HK.out (by omega)
    | succ k1 =>
      by_cases hz : t ≠ [] ∧ m = 0
      · have h1 : (mkB t).toList.isEmpty = false := by
          rw [ByteArray.toList_eq, data_mkB]
          exact List.isEmpty_eq_false_iff.2 hz.1
        have h2 : m = 0 := hz.2
        have HR := HO.out
        unfold outL at HR
        rw [if_pos hz] at HR
        replace HR := Aside0.mk HR
        subst h2
        clear hz HO HK
        go_wp2
        go_ret
        exact ⟨by rw [HR.out]; rfl, HB.out⟩
      · have hz' : (mkB t).toList.isEmpty = true ∨ ((mkB t).toList.isEmpty = false ∧ decide (0 < (m : Int)) = true ∧ decide (0 < m) = true) := by
          rw [ByteArray.toList_eq, data_mkB]
          cases t with
          | nil => exact .inl rfl
          | cons a t => exact .inr ⟨rfl, decide_eq_true (by have : m ≠ 0 := fun e => hz ⟨by simp, e⟩; omega), decide_eq_true (by have : m ≠ 0 := fun e => hz ⟨by simp, e⟩; omega)⟩
        have HK2 : Aside0 (m / 16 < k1) := ⟨by
          have h1 := HK.out
          by_cases ht : t = []
          · rw [if_pos ht] at h1; omega
          · rw [if_neg ht] at h1
            have : m ≠ 0 := fun e => hz ⟨ht, e⟩
            omega⟩
        have hs0 := (outL_step 16 m (by decide) t hz).trans HO.out
        have hsl := hex_slice (m % 16) (by omega)
        have hsc := mkB_cons (hexc (m % 16)) t
        have htm : Int.tmod (m : Int) 16 = ((m % 16 : Nat) : Int) := by rw [Int.tmod_eq_emod_of_nonneg (by omega)]; omega
        have hd : m % 16 < 16 := Nat.mod_lt _ (by decide)
        have hdv : (m : Int) / 16 = ((m / 16 : Nat) : Int) := by omega
        generalize m % 16 = d at hs0 hsl hsc htm hd
        have HS := Aside0.mk hs0
        have HC := Aside0.mk hsc
        have HV := Aside0.mk hdv
        have hw1 : IntKind.u64.wrap ((d : Int) + 1) = (d : Int) + 1 := by rw [IntKind.wrap_u64]; omega
        have hsc2 := slc d (by omega)
        have hz1 := size_one (hexc d)
        clear hs0 hsc hdv hsl
        clear hz HO HK
        rcases hz' with h1 | ⟨h1, h2, h3⟩
        all_goals
          go_wp2
          go_quiet (fail)
          go_wp2
          go_roundg k1
          case measure => omega
          case rel => exact ⟨m / 16, hexc d :: t, by rw [HV.out], by rw [HC.out], HS, ⟨by rw [if_neg (by simp)]; exact HK2.out⟩, by omega, ⟨pw_below_drewN HB.out _⟩⟩
set_option maxHeartbeats 2000000 in
theorem written_8 (n : Nat) (hn : n < 18446744073709551616) (w : World) :
    Calls Tryd.prog 16 #[.int .u64 (n : Int), .int .u8 1] w fun e w' => e = .returned (.string (⟨#[48]⟩ ++ mkB (digs 8 n))) ∧ Below w.heap.size w w' := by
  have hi1 : ∀ w, (Instr.index 49 (.agg #[.int .u64 16, .int .u64 8, .int .u64 10]) (.int .u8 1)).run Tryd.prog w = .ok (.int .u64 8) w := fun w => by kernel_rfl
  have hi2 : ∀ w, (Instr.index 50 (.agg #[.string ⟨#[48, 120]⟩, .string ⟨#[48]⟩, .string ⟨#[]⟩]) (.int .u8 1)).run Tryd.prog w = .ok (.string ⟨#[48]⟩) w := fun w => by kernel_rfl
  go_enter Tryd.func16, Tryd.ntmps16
  go_wp2
  have HB := Aside0.mk (Below.refl w.heap.size w)
  go_loopg [0, 6] (n + 2) (fun kq v0 v6 w' => ∃ (m : Nat) (t : List UInt8), v0 = .int .u64 (m : Int) ∧ v6 = .string (mkB t) ∧ Aside0 (outL 8 m t = digs 8 n) ∧ Aside0 (m + (if t = [] then 1 else 0) < kq) ∧ m ≤ n ∧ Aside0 (Below w.heap.size w w'))
  case atStart => exact ⟨n, [], rfl, rfl, ⟨by simp [outL]⟩, ⟨by simp⟩, Nat.le_refl _, HB⟩
  case round =>
    clear HB
    obtain ⟨m, t, rfl, rfl, HO, HK, hmn, HB⟩ := hrel
    have hts : (mkB t).size ≤ 65 := by
      have h1 := outL_len HO.out
      have h2 := digs_length 8 (by decide) 64 n hn
      rw [← data_length, data_mkB]; omega
    have hs1 : (9223372036854775807 < 1 + (mkB t).size) = False := eq_false (by omega)
    have hs3 : (9223372036854775807 < 1 + (mkB t).size) = False := eq_false (by omega)
    cases gk with
    | zero => exact absurd HK.out (by omega)
    | succ k1 =>
      by_cases hz : t ≠ [] ∧ m = 0
      · have h1 : (mkB t).toList.isEmpty = false := by
          rw [ByteArray.toList_eq, data_mkB]
          exact List.isEmpty_eq_false_iff.2 hz.1
        have h2 : m = 0 := hz.2
        have HR := HO.out
        unfold outL at HR
        rw [if_pos hz] at HR
        replace HR := Aside0.mk HR
        subst h2
        clear hz HO HK
        go_wp2
        go_ret
        exact ⟨by rw [HR.out]; rfl, HB.out⟩
      · have hz' : (mkB t).toList.isEmpty = true ∨ ((mkB t).toList.isEmpty = false ∧ decide (0 < (m : Int)) = true ∧ decide (0 < m) = true) := by
          rw [ByteArray.toList_eq, data_mkB]
          cases t with
          | nil => exact .inl rfl
          | cons a t => exact .inr ⟨rfl, decide_eq_true (by have : m ≠ 0 := fun e => hz ⟨by simp, e⟩; omega), decide_eq_true (by have : m ≠ 0 := fun e => hz ⟨by simp, e⟩; omega)⟩
        have HK2 : Aside0 (m / 8 < k1) := ⟨by
          have h1 := HK.out
          by_cases ht : t = []
          · rw [if_pos ht] at h1; omega
          · rw [if_neg ht] at h1
            have : m ≠ 0 := fun e => hz ⟨ht, e⟩
            omega⟩
        have hs0 := (outL_step 8 m (by decide) t hz).trans HO.out
        have hsl := hex_slice (m % 8) (by omega)
        have hsc := mkB_cons (hexc (m % 8)) t
        have htm : Int.tmod (m : Int) 8 = ((m % 8 : Nat) : Int) := by rw [Int.tmod_eq_emod_of_nonneg (by omega)]; omega
        have hd : m % 8 < 8 := Nat.mod_lt _ (by decide)
        have hdv : (m : Int) / 8 = ((m / 8 : Nat) : Int) := by omega
        generalize m % 8 = d at hs0 hsl hsc htm hd
        have HS := Aside0.mk hs0
        have HC := Aside0.mk hsc
        have HV := Aside0.mk hdv
        have hw1 : IntKind.u64.wrap ((d : Int) + 1) = (d : Int) + 1 := by rw [IntKind.wrap_u64]; omega
        have hsc2 := slc d (by omega)
        have hz1 := size_one (hexc d)
        clear hs0 hsc hdv hsl
        clear hz HO HK
        rcases hz' with h1 | ⟨h1, h2, h3⟩
        all_goals
          go_wp2
          go_quiet (fail)
          go_wp2
          go_roundg k1
          case measure => omega
          case rel => exact ⟨m / 8, hexc d :: t, by rw [HV.out], by rw [HC.out], HS, ⟨by rw [if_neg (by simp)]; exact HK2.out⟩, by omega, ⟨pw_below_drewN HB.out _⟩⟩
set_option maxHeartbeats 2000000 in
theorem written_10 (n : Nat) (hn : n < 18446744073709551616) (w : World) :
    Calls Tryd.prog 16 #[.int .u64 (n : Int), .int .u8 2] w fun e w' => e = .returned (.string (⟨#[]⟩ ++ mkB (digs 10 n))) ∧ Below w.heap.size w w' := by
  have hi1 : ∀ w, (Instr.index 49 (.agg #[.int .u64 16, .int .u64 8, .int .u64 10]) (.int .u8 2)).run Tryd.prog w = .ok (.int .u64 10) w := fun w => by kernel_rfl
  have hi2 : ∀ w, (Instr.index 50 (.agg #[.string ⟨#[48, 120]⟩, .string ⟨#[48]⟩, .string ⟨#[]⟩]) (.int .u8 2)).run Tryd.prog w = .ok (.string ⟨#[]⟩) w := fun w => by kernel_rfl
  go_enter Tryd.func16, Tryd.ntmps16
  go_wp2
  have HB := Aside0.mk (Below.refl w.heap.size w)
  go_loopg [0, 6] (n + 2) (fun kq v0 v6 w' => ∃ (m : Nat) (t : List UInt8), v0 = .int .u64 (m : Int) ∧ v6 = .string (mkB t) ∧ Aside0 (outL 10 m t = digs 10 n) ∧ Aside0 (m + (if t = [] then 1 else 0) < kq) ∧ m ≤ n ∧ Aside0 (Below w.heap.size w w'))
  case atStart => exact ⟨n, [], rfl, rfl, ⟨by simp [outL]⟩, ⟨by simp⟩, Nat.le_refl _, HB⟩
  case round =>
    clear HB
    obtain ⟨m, t, rfl, rfl, HO, HK, hmn, HB⟩ := hrel
    have hts : (mkB t).size ≤ 65 := by
      have h1 := outL_len HO.out
      have h2 := digs_length 10 (by decide) 64 n hn
      rw [← data_length, data_mkB]; omega
    have hs1 : (9223372036854775807 < (mkB t).size) = False := eq_false (by omega)
    have hs3 : (9223372036854775807 < 1 + (mkB t).size) = False := eq_false (by omega)
    cases gk with
    | zero => exact absurd HK.out (by omega)
    | succ k1 =>
      by_cases hz : t ≠ [] ∧ m = 0
      · have h1 : (mkB t).toList.isEmpty = false := by
          rw [ByteArray.toList_eq, data_mkB]
          exact List.isEmpty_eq_false_iff.2 hz.1
        have h2 : m = 0 := hz.2
        have HR := HO.out
        unfold outL at HR
        rw [if_pos hz] at HR
        replace HR := Aside0.mk HR
        subst h2
        clear hz HO HK
        go_wp2
        go_ret
        exact ⟨by rw [HR.out]; rfl, HB.out⟩
      · have hz' : (mkB t).toList.isEmpty = true ∨ ((mkB t).toList.isEmpty = false ∧ decide (0 < (m : Int)) = true ∧ decide (0 < m) = true) := by
          rw [ByteArray.toList_eq, data_mkB]
          cases t with
          | nil => exact .inl rfl
          | cons a t => exact .inr ⟨rfl, decide_eq_true (by have : m ≠ 0 := fun e => hz ⟨by simp, e⟩; omega), decide_eq_true (by have : m ≠ 0 := fun e => hz ⟨by simp, e⟩; omega)⟩
        have HK2 : Aside0 (m / 10 < k1) := ⟨by
          have h1 := HK.out
          by_cases ht : t = []
          · rw [if_pos ht] at h1; omega
          · rw [if_neg ht] at h1
            have : m ≠ 0 := fun e => hz ⟨ht, e⟩
            omega⟩
        have hs0 := (outL_step 10 m (by decide) t hz).trans HO.out
        have hsl := hex_slice (m % 10) (by omega)
        have hsc := mkB_cons (hexc (m % 10)) t
        have htm : Int.tmod (m : Int) 10 = ((m % 10 : Nat) : Int) := by rw [Int.tmod_eq_emod_of_nonneg (by omega)]; omega
        have hd : m % 10 < 10 := Nat.mod_lt _ (by decide)
        have hdv : (m : Int) / 10 = ((m / 10 : Nat) : Int) := by omega
        generalize m % 10 = d at hs0 hsl hsc htm hd
        have HS := Aside0.mk hs0
        have HC := Aside0.mk hsc
        have HV := Aside0.mk hdv
        have hw1 : IntKind.u64.wrap ((d : Int) + 1) = (d : Int) + 1 := by rw [IntKind.wrap_u64]; omega
        have hsc2 := slc d (by omega)
        have hz1 := size_one (hexc d)
        clear hs0 hsc hdv hsl
        clear hz HO HK
        rcases hz' with h1 | ⟨h1, h2, h3⟩
        all_goals
          go_wp2
          go_quiet (fail)
          go_wp2
          go_roundg k1
          case measure => omega
          case rel => exact ⟨m / 10, hexc d :: t, by rw [HV.out], by rw [HC.out], HS, ⟨by rw [if_neg (by simp)]; exact HK2.out⟩, by omega, ⟨pw_below_drewN HB.out _⟩⟩
def wrL (n : Nat) (b : Nat) : List UInt8 := if b = 0 then [48, 120] ++ digs 16 n else if b = 1 then [48] ++ digs 8 n else digs 10 n
def portcullislaw10_written.f (a0 a1 : Int) : Option ByteArray := if 0 ≤ a0 ∧ a0 < 18446744073709551616 ∧ 0 ≤ a1 ∧ a1 ≤ 2 then some (mkB (wrL a0.toNat a1.toNat)) else none
theorem portcullislaw10_written.calls (a0 : Int) (a1 : Int) (r : ByteArray) (w : World) (h : portcullislaw10_written.f a0 a1 = some r) :
    Calls Tryd.prog 16 #[.int .u64 a0, .int .u8 a1] w fun e w' => e = .returned (.string r) ∧ Below w.heap.size w w' := by
  unfold portcullislaw10_written.f at h
  split at h
  · next hc =>
    obtain ⟨h0, h1, h2, h3⟩ := hc
    obtain rfl := Option.some.inj h
    obtain ⟨n, rfl⟩ := Int.eq_ofNat_of_zero_le h0
    have hn : n < 18446744073709551616 := by omega
    have key : ∀ (pre : ByteArray) (l m : List UInt8), pre = mkB l → pre ++ mkB m = mkB (l ++ m) := by
      rintro _ l m rfl
      rw [← mkB_data (mkB l ++ mkB m)]
      congr 1
    rcases (by omega : a1 = 0 ∨ a1 = 1 ∨ a1 = 2) with rfl | rfl | rfl
    · refine (written_16 n hn w).mono fun e w' ⟨he, hb⟩ => ⟨?_, hb⟩
      rw [he]; exact congrArg (fun x => Ending.returned (Value.string x)) (key ⟨#[48, 120]⟩ [48, 120] (digs 16 n) rfl)
    · refine (written_8 n hn w).mono fun e w' ⟨he, hb⟩ => ⟨?_, hb⟩
      rw [he]; exact congrArg (fun x => Ending.returned (Value.string x)) (key ⟨#[48]⟩ [48] (digs 8 n) rfl)
    · refine (written_10 n hn w).mono fun e w' ⟨he, hb⟩ => ⟨?_, hb⟩
      rw [he]; exact congrArg (fun x => Ending.returned (Value.string x)) (key ⟨#[]⟩ [] (digs 10 n) rfl)
  · cases h
end Go.Proofs.YtlnlfglhboccpaaDoor.Pr
