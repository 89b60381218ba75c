import Derived.Test.YtlnlfglhboccpaaDoorGend
import Derived.Test.YtlnlfglhboccpaaDoorFwr
namespace Go.Proofs.YtlnlfglhboccpaaDoor.Pr
open Go.RowKit Go.Proofs.YtlnlfglhboccpaaDoorW.PrintWords Go.Proofs.YtlnlfglhboccpaaDoorW.PrintLast Go.Proofs.YtlnlfglhboccpaaDoorW.PrintMore
set_option linter.unusedVariables false
set_option linter.unusedSimpArgs false

/-! ### Numbers, written and read -/
theorem hexc_all : ((List.range 16).all fun d => decide (digV (hexc d) = (d : Int) ∧ hexc d ≠ 46 ∧ hexc d ≠ 120 ∧ hexc d ≠ 88 ∧ (hexc d = 48 → d = 0))) = true := by decide +kernel
theorem hexc_is (d : Nat) (h : d < 16) : digV (hexc d) = (d : Int) ∧ hexc d ≠ 46 ∧ hexc d ≠ 120 ∧ hexc d ≠ 88 ∧ (hexc d = 48 → d = 0) := of_decide_eq_true (List.all_eq_true.1 hexc_all d (List.mem_range.2 h))
theorem rdL_digs (b : Nat) (hb : 2 ≤ b) (hb2 : b ≤ 16) (rest : List UInt8) : ∀ n : Nat, rdL (b : Int) (digs b n ++ rest) 0 = rdL (b : Int) rest (min (n : Int) 4294967296) := by
  intro n
  induction n using Nat.strongRecOn generalizing rest with
  | _ n ih =>
    rw [digs]
    split
    · next h =>
      have hn : n < b := by omega
      have hd := (hexc_is n (by omega)).1
      rw [List.singleton_append, rdL, hd, if_neg (by omega)]
      congr 1
      omega
    · next h =>
      have hlt : n / b < n := Nat.div_lt_self (by omega) (by omega)
      have hm : n % b < b := Nat.mod_lt _ (by omega)
      have hd := (hexc_is (n % b) (by omega)).1
      rw [List.append_assoc, ih (n / b) hlt, List.singleton_append, rdL, hd, if_neg (by omega)]
      congr 1
      have e : b * (n / b) + n % b = n := Nat.div_add_mod n b
      have e2 : ((n / b : Nat) : Int) * (b : Int) + ((n % b : Nat) : Int) = (n : Int) := by
        have := congrArg (fun x : Nat => (x : Int)) e
        simp only [Int.natCast_add, Int.natCast_mul] at this
        rw [Int.mul_comm]; exact this
      rcases Nat.lt_or_ge (n / b) 4294967296 with h1 | h1
      · rw [Int.min_eq_left (a := ((n / b : Nat) : Int)) (b := 4294967296) (by omega), e2]
      · have h2 : n / b ≤ n := Nat.div_le_self _ _
        rw [Int.min_eq_right (a := ((n / b : Nat) : Int)) (b := 4294967296) (by omega), Int.min_eq_right (b := 4294967296) (a := (n : Int)) (by omega)]
        apply Int.min_eq_right
        have : (4294967296 : Int) * 2 ≤ 4294967296 * (b : Int) := Int.mul_le_mul_of_nonneg_left (by omega) (by decide)
        omega
theorem rdL_noughts (b : Int) (hb : 2 ≤ b) (l : List UInt8) : ∀ j : Nat, rdL b (List.replicate j 48 ++ l) 0 = rdL b l 0
  | 0 => rfl
  | j + 1 => by
    have hd : digV 48 = 0 := by decide +kernel
    rw [List.replicate_succ, List.cons_append, rdL, hd, if_neg (by omega)]
    have e : min (0 * b + 0) 4294967296 = 0 := by omega
    rw [e]
    exact rdL_noughts b hb l j
theorem digs_ne (b n : Nat) : digs b n ≠ [] := by rw [digs]; split <;> simp
theorem digs_mem (b : Nat) (hb : 2 ≤ b) (hb2 : b ≤ 16) : ∀ n : Nat, ∀ c ∈ digs b n, ∃ d, d < b ∧ c = hexc d := by
  intro n
  induction n using Nat.strongRecOn with
  | _ n ih =>
    intro c hc
    rw [digs] at hc
    split at hc
    · next h => exact ⟨n, by omega, by simpa using hc⟩
    · next h =>
      rcases List.mem_append.1 hc with hc | hc
      · exact ih (n / b) (Nat.div_lt_self (by omega) (by omega)) c hc
      · exact ⟨n % b, Nat.mod_lt _ (by omega), by simpa using hc⟩
theorem digs_head (b : Nat) (hb : 2 ≤ b) (hb2 : b ≤ 16) : ∀ n : Nat, 0 < n → (digs b n).headD 0 ≠ 48 := by
  intro n
  induction n using Nat.strongRecOn with
  | _ n ih =>
    intro h0
    rw [digs]
    split
    · next h =>
      intro e
      have := (hexc_is n (by omega)).2.2.2.2 e
      omega
    · next h =>
      have hd : 0 < n / b := Nat.div_pos (by omega) (by omega)
      have := ih (n / b) (Nat.div_lt_self (by omega) (by omega)) hd
      have hne := digs_ne b (n / b)
      cases hl : digs b (n / b) with
      | nil => exact absurd hl hne
      | cons c l => rw [hl] at this; simpa using this
def numOf (n : Nat) : Int × Int := if n < 4294967296 then ((n : Int), 0) else (0, 4)
theorem fin_of (n : Nat) : fin (min (n : Int) 4294967296, true) = numOf n := by
  unfold fin numOf
  simp only [if_true]
  by_cases h : n < 4294967296
  · rw [if_neg (by omega), if_pos h, Int.min_eq_left (by omega)]
  · rw [if_pos (by omega), if_neg h]
theorem numF_mk (l : List UInt8) : numF (mkB l) = if l.length = 0 then (0, 8) else fin (if (2 ≤ l.length ∧ l.getD 0 0 = 48 ∧ (l.getD 1 0 = 120 ∨ l.getD 1 0 = 88)) then rdL 16 (l.drop 2) 0 else if 1 < l.length ∧ l.getD 0 0 = 48 then rdL 8 (l.drop 1) 0 else rdL 10 l 0) := by
  rw [numF_fin, mkB_size, data_mkB]
  have hp := preB_iff (mkB l)
  rw [mkB_size, data_mkB] at hp
  by_cases h : preB (mkB l) = true
  · rw [if_pos h, if_pos (hp.1 h)]
  · rw [if_neg h, if_neg (fun e => h (hp.2 e))]
theorem numF_hex (n j : Nat) : numF (mkB (48 :: 120 :: (List.replicate j 48 ++ digs 16 n))) = numOf n := by
  rw [numF_mk, if_neg (by simp), if_pos ⟨by simp, rfl, .inl rfl⟩]
  simp only [List.drop_succ_cons, List.drop_zero]
  rw [rdL_noughts 16 (by decide)]
  have h := rdL_digs 16 (by decide) (by decide) [] n
  rw [List.append_nil] at h
  rw [show (16 : Int) = ((16 : Nat) : Int) from rfl, h]
  exact fin_of n
theorem numF_oct (n j : Nat) : numF (mkB (48 :: (List.replicate j 48 ++ digs 8 n))) = numOf n := by
  have hne := digs_ne 8 n
  have hpos : 0 < (digs 8 n).length := List.length_pos_iff.2 hne
  rw [numF_mk, if_neg (by simp), if_neg, if_pos ⟨by simp; omega, rfl⟩]
  · simp only [List.drop_succ_cons, List.drop_zero]
    rw [rdL_noughts 8 (by decide)]
    have h := rdL_digs 8 (by decide) (by decide) [] n
    rw [List.append_nil] at h
    rw [show (8 : Int) = ((8 : Nat) : Int) from rfl, h]
    exact fin_of n
  · rintro ⟨_, _, h⟩
    have hm : (48 :: (List.replicate j 48 ++ digs 8 n)).getD 1 0 ∈ List.replicate j (48 : UInt8) ++ digs 8 n := by
      have : 0 < (List.replicate j (48 : UInt8) ++ digs 8 n).length := by simp; omega
      cases hl : List.replicate j (48 : UInt8) ++ digs 8 n with
      | nil => rw [hl] at this; simp at this
      | cons c l => simp
    generalize (48 :: (List.replicate j 48 ++ digs 8 n)).getD 1 0 = c at h hm
    rcases List.mem_append.1 hm with hm | hm
    · have := List.eq_of_mem_replicate hm
      subst this
      rcases h with h | h <;> exact absurd h (by decide)
    · obtain ⟨d, hd, rfl⟩ := digs_mem 8 (by decide) (by decide) n c hm
      have := hexc_is d (by omega)
      rcases h with h | h
      · exact this.2.2.1 h
      · exact this.2.2.2.1 h
theorem numF_dec (n : Nat) : numF (mkB (digs 10 n)) = numOf n := by
  have hne := digs_ne 10 n
  have hpos : 0 < (digs 10 n).length := List.length_pos_iff.2 hne
  rw [numF_mk, if_neg (by omega), if_neg, if_neg]
  · have h := rdL_digs 10 (by decide) (by decide) [] n
    rw [List.append_nil] at h
    rw [show (10 : Int) = ((10 : Nat) : Int) from rfl, h]
    exact fin_of n
  · rintro ⟨h1, h2⟩
    rcases Nat.eq_zero_or_pos n with h0 | h0
    · subst h0
      rw [digs, dif_pos (.inl (by decide))] at h1
      simp at h1
    · have := digs_head 10 (by decide) (by decide) n h0
      cases hl : digs 10 n with
      | nil => exact hne hl
      | cons c l => rw [hl] at this h2; exact this (by simpa using h2)
  · rintro ⟨h0, _, h⟩
    have hm : (digs 10 n).getD 1 0 ∈ digs 10 n := by
      rw [List.getD_eq_getElem?_getD, List.getElem?_eq_getElem (by omega)]
      exact List.getElem_mem _
    generalize (digs 10 n).getD 1 0 = c at h hm
    obtain ⟨d, hd, rfl⟩ := digs_mem 10 (by decide) (by decide) n c hm
    have := hexc_is d (by omega)
    rcases h with h | h
    · exact this.2.2.1 h
    · exact this.2.2.2.1 h
theorem numF_wr (n b : Nat) (hb : b ≤ 2) : numF (mkB (wrL n b)) = numOf n := by
  unfold wrL
  rcases (by omega : b = 0 ∨ b = 1 ∨ b = 2) with rfl | rfl | rfl
  · exact numF_hex n 0
  · exact numF_oct n 0
  · exact numF_dec n
theorem wrL_len (n b : Nat) (hn : n < 18446744073709551616) : (wrL n b).length ≤ 67 := by
  unfold wrL
  have h1 := digs_length 16 (by decide) 64 n hn
  have h2 := digs_length 8 (by decide) 64 n hn
  have h3 := digs_length 10 (by decide) 64 n hn
  split
  · simp; omega
  · split
    · simp; omega
    · omega
theorem wrL_no (n b : Nat) : ∀ c ∈ wrL n b, c ≠ 46 := by
  intro c hc
  have key : ∀ B, 2 ≤ B → B ≤ 16 → c ∈ digs B n → c ≠ 46 := by
    intro B h1 h2 h
    obtain ⟨d, hd, rfl⟩ := digs_mem B h1 h2 n c h
    exact (hexc_is d (by omega)).2.1
  unfold wrL at hc
  split at hc
  · rcases List.mem_append.1 hc with h | h
    · simp at h; rcases h with rfl | rfl <;> decide
    · exact key 16 (by decide) (by decide) h
  · split at hc
    · rcases List.mem_append.1 hc with h | h
      · simp at h; subst h; decide
      · exact key 8 (by decide) (by decide) h
    · exact key 10 (by decide) (by decide) hc
end Go.Proofs.YtlnlfglhboccpaaDoor.Pr
