import Derived.Test.YtlnlfglhboccpaaDoorPrA2
import Derived.Test.YtlnlfglhboccpaaDoorPrA3
import Derived.Test.YtlnlfglhboccpaaDoorFsp
namespace Go.Proofs.YtlnlfglhboccpaaDoor.Pr
open Go.RowKit Go.Proofs.YtlnlfglhboccpaaDoorW.PrintWords Go.Proofs.YtlnlfglhboccpaaDoorW.PrintLast Go.Proofs.YtlnlfglhboccpaaDoorW.PrintMore
set_option linter.unusedVariables false
set_option linter.unusedSimpArgs false

/-! ### The reference's number is the program's -/
theorem wrap_small {a : Int} (h0 : -9223372036854775808 ≤ a) (h1 : a ≤ 9223372036854775807) : wrap64 a = a := by unfold wrap64; omega
theorem uwrap_small {a : Int} (h0 : 0 ≤ a) (h1 : a ≤ 18446744073709551615) : IntKind.u64.wrap a = a := by
  simp only [IntKind.wrap, IntKind.signed, IntKind.bits]
  simp
  omega
theorem mn_eq (a b : Int) : mn a b = min a b := by unfold mn; omega
theorem bt_lt (s : ByteArray) (k : Nat) (h : k < s.size) : bt s (k : Int) = (s[k].toNat : Int) := by unfold bt; simp [h]
theorem getD_lt (s : ByteArray) (k : Nat) (h : k < s.size) : s.data.toList.getD k 0 = s[k] := by
  simp [List.getD, List.getElem?_eq_getElem (show k < s.data.toList.length by rw [data_length]; exact h)]; rfl
def hexV (c : UInt8) : Int := if digV c = u64top then -1 else digV c
theorem hex_all : ((List.range 256).all fun n => decide (portcullisref09_Hex.f 2 (Int.ofNat n) = some (hexV n.toUInt8))) = true := by decide +kernel
theorem hex_eq (k : Nat) (c : UInt8) : portcullisref09_Hex.f (k + 2) (c.toNat : Int) = some (hexV c) := by
  have h := of_decide_eq_true (List.all_eq_true.1 hex_all c.toNat (List.mem_range.2 (UInt8.toNat_lt c)))
  have e : c.toNat.toUInt8 = c := by simp
  rw [e] at h
  have := more_rounds (fun k => portcullisref09_Hex.mono (c.toNat : Int) k) 2 k _ h
  rw [Nat.add_comm] at this
  exact this
theorem digV_all : ((List.range 256).all fun n => decide (0 ≤ digV n.toUInt8 ∧ (digV n.toUInt8 ≤ 15 ∨ digV n.toUInt8 = u64top))) = true := by decide +kernel
theorem digV_bd (c : UInt8) : 0 ≤ digV c ∧ (digV c ≤ 15 ∨ digV c = u64top) := by
  have h := of_decide_eq_true (List.all_eq_true.1 digV_all c.toNat (List.mem_range.2 (UInt8.toNat_lt c)))
  have e : c.toNat.toUInt8 = c := by simp
  rwa [e] at h
/-- What rdL tells, as Number tells it. -/
def fin (r : Int × Bool) : Int × Int := if r.2 then (if 4294967296 ≤ r.1 then (0, 4) else (r.1, 0)) else (0, 8)
theorem rdL_bound (base : Int) : ∀ (l : List UInt8) (n : Int), 0 ≤ n → 0 ≤ base → n ≤ 4294967296 → 0 ≤ (rdL base l n).1 ∧ (rdL base l n).1 ≤ 4294967296
  | [], n, h0, hb, h1 => ⟨h0, h1⟩
  | c :: l, n, h0, hb, h1 => by
    unfold rdL
    split
    · exact ⟨Int.le_refl _, by decide⟩
    · have hm : 0 ≤ n * base := Int.mul_nonneg h0 hb
      have hd := (digV_bd c).1
      exact rdL_bound base l _ (by omega) hb (by omega)
theorem num_l0 (base : Int) (hb1 : 2 ≤ base) (hb2 : base ≤ 16) (s : ByteArray) (hs : s.size ≤ 140737488351232) (k : Nat) : ∀ (d i : Nat) (n : Int), i + d = s.size → 0 ≤ n → n ≤ 4294967296 →
    portcullisref10_Number.l0 (k + 3 + d) s base n (i : Int) = some (fin (rdL base (s.data.toList.drop i) n))
  | 0, i, n, h, h0, h1 => by
    unfold portcullisref10_Number.l0
    rw [if_neg (by omega), List.drop_of_length_le (by rw [data_length]; omega)]
    unfold rdL fin
    simp only [if_true]
    by_cases hg : 4294967296 ≤ n
    · rw [if_pos hg, if_pos hg]
    · rw [if_neg hg, if_neg hg]
  | d + 1, i, n, h, h0, h1 => by
    have hi : i < s.size := by omega
    rw [show k + 3 + (d + 1) = (k + 3 + d) + 1 from rfl]
    unfold portcullisref10_Number.l0
    rw [if_pos (by omega), if_pos (by omega), bt_lt s i hi, show k + 3 + d = (k + 1 + d) + 2 by omega, hex_eq]
    simp only [Option.bind_some]
    rw [rdL_drop base s i hi n]
    obtain ⟨hd0, hd⟩ := digV_bd s[i]
    unfold hexV
    by_cases ht : digV s[i] = u64top
    · rw [if_pos ht, if_pos (by decide), if_pos (by rw [ht]; unfold u64top; omega)]
      rfl
    · have hd15 : digV s[i] ≤ 15 := hd.resolve_right ht
      have hm0 : 0 ≤ n * base := Int.mul_nonneg h0 (by omega)
      have hm1 : n * base ≤ 4294967296 * 16 := Int.mul_le_mul h1 hb2 (by omega) (by omega)
      rw [if_neg ht, if_neg (by omega)]
      by_cases hg : base ≤ digV s[i]
      · rw [if_pos hg, if_pos hg]; rfl
      · rw [if_neg hg, if_neg hg, uwrap_small (a := base) (by omega) (by omega), uwrap_small (a := n * base) (by omega) (by omega), uwrap_small (a := digV s[i]) (by omega) (by omega), uwrap_small (a := n * base + digV s[i]) (by omega) (by omega), mn_eq, wrap_small (by omega) (by omega)]
        have ih := num_l0 base hb1 hb2 s hs k d (i + 1) (min (n * base + digV s[i]) 4294967296) (by omega) (by omega) (by omega)
        rw [show k + 1 + d + 2 = k + 3 + d by omega]
        exact ih
theorem toList_nil (s : ByteArray) : s.toList = [] ↔ s.size = 0 := by
  rw [ByteArray.toList_eq, ← List.length_eq_zero_iff, data_length]
theorem numF_fin (s : ByteArray) : numF s = if s.size = 0 then (0, 8) else fin (if preB s then rdL 16 (s.data.toList.drop 2) 0 else if 1 < s.size ∧ s.data.toList.getD 0 0 = 48 then rdL 8 (s.data.toList.drop 1) 0 else rdL 10 s.data.toList 0) := rfl
theorem preB_iff (s : ByteArray) : preB s = true ↔ 2 ≤ s.size ∧ s.data.toList.getD 0 0 = 48 ∧ (s.data.toList.getD 1 0 = 120 ∨ s.data.toList.getD 1 0 = 88) := by
  unfold preB Lib.hasPrefix
  rw [← data_length]
  generalize s.data.toList = l
  cases l with
  | nil => simp
  | cons a l =>
    cases l with
    | nil => simp [List.isPrefixOf]
    | cons b l =>
      simp [List.isPrefixOf]
      constructor
      · rintro (⟨h1, h2⟩ | ⟨h1, h2⟩)
        · exact ⟨h1.symm, .inl h2.symm⟩
        · exact ⟨h1.symm, .inr h2.symm⟩
      · rintro ⟨h1, h2 | h2⟩
        · exact .inl ⟨h1.symm, h2.symm⟩
        · exact .inr ⟨h1.symm, h2.symm⟩
theorem byte_is (c : UInt8) (n : Nat) (hn : n < 256) : ((c.toNat : Int) = (n : Int)) ↔ c = n.toUInt8 := by
  constructor
  · intro h
    apply UInt8.toNat.inj
    rw [show c.toNat = n by omega]
    simp; omega
  · rintro rfl
    simp; omega
theorem refNumber_eq (s : ByteArray) (hs : s.size ≤ 140737488351232) (k : Nat) : portcullisref10_Number.f (k + s.size + 5) s = some (numF s) := by
  rw [numF_fin]
  unfold portcullisref10_Number.f
  by_cases h0 : s.size = 0
  · rw [if_pos ((toList_nil s).2 h0), if_pos h0]
  · rw [if_neg (fun e => h0 ((toList_nil s).1 e)), if_neg h0]
    have J : ∀ (t : ByteArray) (base : Int), 2 ≤ base → base ≤ 16 → t.size ≤ s.size → ∀ m, m = k + s.size + 4 → portcullisref10_Number.j1 m t base = some (fin (rdL base t.data.toList 0)) := by
      intro t base hb1 hb2 ht m hm
      subst hm
      rw [show k + s.size + 4 = (k + s.size + 3) + 1 from rfl]
      unfold portcullisref10_Number.j1
      have := num_l0 base hb1 hb2 t (by omega) (k + (s.size - t.size)) t.size 0 0 (by omega) (by omega) (by omega)
      rw [show k + (s.size - t.size) + 3 + t.size = k + s.size + 3 by omega] at this
      exact this
    have J0 : ∀ (x : Bool), portcullisref10_Number.j0 (k + s.size + 5) s 10 x = if x = true then (if 2 ≤ (s.size : Int) then portcullisref10_Number.j1 (k + s.size + 4) (s.extract 2 s.size) 16 else none) else (if (s.size : Int) ≥ 2 then (if 0 < (s.size : Int) then (if (bt s 0) = 48 then (if 1 ≤ (s.size : Int) then portcullisref10_Number.j1 (k + s.size + 4) (s.extract 1 s.size) 8 else none) else portcullisref10_Number.j1 (k + s.size + 4) s 10) else none) else portcullisref10_Number.j1 (k + s.size + 4) s 10) := fun x => rfl
    have hp := preB_iff s
    by_cases h2 : 2 ≤ s.size
    · have b0 : bt s 0 = ((s.data.toList.getD 0 0).toNat : Int) := by rw [getD_lt s 0 (by omega)]; exact bt_lt s 0 (by omega)
      have b1 : bt s 1 = ((s.data.toList.getD 1 0).toNat : Int) := by rw [getD_lt s 1 (by omega)]; exact bt_lt s 1 (by omega)
      rw [if_pos (by omega), if_pos (by omega)]
      by_cases c0 : s.data.toList.getD 0 0 = 48
      · have e0 : bt s 0 = 48 := by rw [b0, c0]; rfl
        rw [if_pos e0, if_pos (by omega)]
        by_cases c1 : s.data.toList.getD 1 0 = 120 ∨ s.data.toList.getD 1 0 = 88
        · have hx : preB s = true := hp.2 ⟨h2, c0, c1⟩
          rw [if_pos hx]
          have goal : portcullisref10_Number.j0 (k + s.size + 5) s 10 true = some (fin (rdL 16 (s.data.toList.drop 2) 0)) := by
            rw [J0, if_pos rfl, if_pos (by omega), J _ 16 (by decide) (by decide) (by first | (simp; done) | (simp; omega)) _ rfl, ext_data]
          by_cases e1 : bt s 1 = 120
          · rw [if_pos e1]; exact goal
          · rw [if_neg e1]
            have e2 : (bt s 1 == 88) = true := by
              rw [beq_iff_eq, b1]
              rcases c1 with c1 | c1
              · exact absurd (by rw [b1, c1]; rfl) e1
              · rw [c1]; rfl
            rw [e2]; exact goal
        · have hx : ¬ preB s = true := fun h => c1 (hp.1 h).2.2
          rw [if_neg hx, if_pos (show 1 < s.size ∧ s.data.toList.getD 0 0 = 48 from ⟨by omega, c0⟩)]
          have goal : portcullisref10_Number.j0 (k + s.size + 5) s 10 false = some (fin (rdL 8 (s.data.toList.drop 1) 0)) := by
            rw [J0, if_neg Bool.false_ne_true, if_pos (by omega), if_pos (by omega), if_pos e0, if_pos (by omega), J _ 8 (by decide) (by decide) (by first | (simp; done) | (simp; omega)) _ rfl, ext_data]
          rw [if_neg (show ¬ bt s 1 = 120 from fun e => c1 (.inl ((byte_is _ 120 (by decide)).1 (by rw [← b1, e]; rfl))))]
          have e2 : (bt s 1 == 88) = false := by
            rw [beq_eq_false_iff_ne]
            exact fun e => c1 (.inr ((byte_is _ 88 (by decide)).1 (by rw [← b1, e]; rfl)))
          rw [e2]; exact goal
      · have e0 : ¬ bt s 0 = 48 := fun e => c0 ((byte_is _ 48 (by decide)).1 (by rw [← b0, e]; rfl))
        rw [if_neg e0, if_neg (show ¬ preB s = true from fun h => c0 (hp.1 h).2.1), if_neg (show ¬ (1 < s.size ∧ s.data.toList.getD 0 0 = 48) from fun h => c0 h.2), J0, if_neg Bool.false_ne_true, if_pos (by omega), if_pos (by omega), if_neg e0, J s 10 (by decide) (by decide) (Nat.le_refl _) _ rfl]
    · rw [if_neg (by omega), if_neg (show ¬ preB s = true from fun h => h2 (hp.1 h).1), if_neg (show ¬ (1 < s.size ∧ s.data.toList.getD 0 0 = 48) from fun h => h2 h.1), J0, if_neg Bool.false_ne_true, if_neg (by omega), J s 10 (by decide) (by decide) (Nat.le_refl _) _ rfl]
end Go.Proofs.YtlnlfglhboccpaaDoor.Pr
