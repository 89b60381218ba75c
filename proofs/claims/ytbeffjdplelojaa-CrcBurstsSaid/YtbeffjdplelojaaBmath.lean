import Derived.Test.YtbeffjdplelojaaAfrm
namespace Go.Proofs.Ytbeffjdplelojaa.Pr
open Go.RowKit Go.Proofs.YtbeffjdplelojaaW.PrintWords Go.Proofs.YtbeffjdplelojaaW.PrintLast Go.Proofs.YtbeffjdplelojaaW.PrintMore
set_option linter.unusedVariables false
set_option linter.unusedSimpArgs false

/-! ### The sums' arithmetic, in natural numbers -/
theorem xor32 (a b : Nat) (ha : a < 2 ^ 32) (hb : b < 2 ^ 32) : Go.bits .xor .u32 (a : Int) (b : Int) = ((a ^^^ b : Nat) : Int) := by
  have h : a ^^^ b < 2 ^ 32 := Nat.xor_lt_two_pow ha hb
  have hb32 : IntKind.u32.bits = 32 := rfl
  simp only [bits, BitVec.ofInt_natCast, BitVec.toNat_xor, BitVec.toNat_ofNat, hb32, Nat.mod_eq_of_lt ha, Nat.mod_eq_of_lt hb]
  rw [IntKind.wrap_u32]
  omega
theorem and32 (a b : Nat) (ha : a < 2 ^ 32) (hb : b < 2 ^ 32) : Go.bits .and .u32 (a : Int) (b : Int) = ((a &&& b : Nat) : Int) := by
  have h : a &&& b < 2 ^ 32 := Nat.and_lt_two_pow _ hb
  have hb32 : IntKind.u32.bits = 32 := rfl
  simp only [bits, BitVec.ofInt_natCast, BitVec.toNat_and, BitVec.toNat_ofNat, hb32, Nat.mod_eq_of_lt ha, Nat.mod_eq_of_lt hb]
  rw [IntKind.wrap_u32]
  omega
/-- One step of eight. -/
def N1 (x : Nat) : Nat := (x / 2) ^^^ (if x % 2 = 1 then 3988292384 else 0)
theorem N1_lt {x : Nat} (h : x < 2 ^ 32) : N1 x < 2 ^ 32 := by
  unfold N1
  refine Nat.xor_lt_two_pow (by omega) ?_
  split <;> omega
theorem N1_xor (x y : Nat) : N1 (x ^^^ y) = N1 x ^^^ N1 y := by
  unfold N1
  have h1 : (x ^^^ y) / 2 = x / 2 ^^^ y / 2 := by
    apply Nat.eq_of_testBit_eq
    intro i
    simp [Nat.testBit_div_two, Nat.testBit_xor]
  have h2 : (x ^^^ y) % 2 = (x + y) % 2 := by
    have h := Nat.testBit_xor x y 0
    simp only [Nat.testBit_zero] at h
    rcases Nat.mod_two_eq_zero_or_one x with hx | hx <;> rcases Nat.mod_two_eq_zero_or_one y with hy | hy <;> rcases Nat.mod_two_eq_zero_or_one (x ^^^ y) with hz | hz <;> rw [hx, hy, hz] at h <;> first | omega | (exact absurd h (by decide))
  rw [h1]
  rcases Nat.mod_two_eq_zero_or_one x with hx | hx <;> rcases Nat.mod_two_eq_zero_or_one y with hy | hy
  · rw [if_neg (by omega), if_neg (by omega), if_neg (by omega)]; simp
  · rw [if_pos (by omega), if_neg (by omega), if_pos (by omega)]; simp [Nat.xor_assoc]
  · rw [if_pos (by omega), if_pos (by omega), if_neg (by omega)]
    apply Nat.eq_of_testBit_eq
    intro i
    simp only [Nat.testBit_xor, Nat.zero_testBit]
    cases (x / 2).testBit i <;> cases (y / 2).testBit i <;> cases Nat.testBit 3988292384 i <;> rfl
  · rw [if_neg (by omega), if_pos (by omega), if_pos (by omega)]
    apply Nat.eq_of_testBit_eq
    intro i
    simp only [Nat.testBit_xor, Nat.zero_testBit]
    cases (x / 2).testBit i <;> cases (y / 2).testBit i <;> cases Nat.testBit 3988292384 i <;> rfl
theorem st1_nat (x : Nat) (h : x < 2 ^ 32) : st1 (x : Int) = (N1 x : Nat) := by
  unfold st1 N1
  have h1 : Go.bits .and .u32 (x : Int) 1 = ((x % 2 : Nat) : Int) := by
    have := and32 x 1 h (by omega)
    rw [Nat.and_one_is_mod] at this
    exact this
  have h2 : ((x : Int) / 2) = ((x / 2 : Nat) : Int) := by omega
  have h3 : (3988292384 * ((x % 2 : Nat) : Int)) % 4294967296 = ((if x % 2 = 1 then 3988292384 else 0 : Nat) : Int) := by split <;> omega
  rw [h1, h2, h3, xor32 _ _ (by omega) (by split <;> omega)]
def N8 (x : Nat) : Nat := N1 (N1 (N1 (N1 (N1 (N1 (N1 (N1 x)))))))
theorem N8_lt {x : Nat} (h : x < 2 ^ 32) : N8 x < 2 ^ 32 := N1_lt (N1_lt (N1_lt (N1_lt (N1_lt (N1_lt (N1_lt (N1_lt h)))))))
theorem N8_xor (x y : Nat) : N8 (x ^^^ y) = N8 x ^^^ N8 y := by simp only [N8, N1_xor]
theorem st8_nat (x : Nat) (h : x < 2 ^ 32) : st8 (x : Int) = (N8 x : Nat) := by
  unfold st8 N8
  rw [st1_nat x h, st1_nat _ (N1_lt h), st1_nat _ (N1_lt (N1_lt h)), st1_nat _ (N1_lt (N1_lt (N1_lt h))), st1_nat _ (N1_lt (N1_lt (N1_lt (N1_lt h)))), st1_nat _ (N1_lt (N1_lt (N1_lt (N1_lt (N1_lt h))))), st1_nat _ (N1_lt (N1_lt (N1_lt (N1_lt (N1_lt (N1_lt h)))))), st1_nat _ (N1_lt (N1_lt (N1_lt (N1_lt (N1_lt (N1_lt (N1_lt h)))))))]

/-! ### Linear maps, and tables of them -/
structure Lin (L : Nat → Nat) : Prop where
  lt : ∀ x, x < 2 ^ 32 → L x < 2 ^ 32
  add : ∀ x y, L (x ^^^ y) = L x ^^^ L y
theorem Lin.zero {L : Nat → Nat} (h : Lin L) : L 0 = 0 := by
  have := h.add 0 0
  simpa using this
theorem Lin.comp {L M : Nat → Nat} (h : Lin L) (g : Lin M) : Lin (fun x => L (M x)) := ⟨fun x hx => h.lt _ (g.lt _ hx), fun x y => by rw [g.add, h.add]⟩
theorem N8_lin : Lin N8 := ⟨fun _ h => N8_lt h, N8_xor⟩
def iter (L : Nat → Nat) : Nat → Nat → Nat
  | 0, x => x
  | n + 1, x => iter L n (L x)
theorem iter_succ (L : Nat → Nat) (n x : Nat) : iter L (n + 1) x = L (iter L n x) := by
  induction n generalizing x with
  | zero => rfl
  | succ n ih => rw [iter, ih, iter]
theorem iter_add (L : Nat → Nat) (n m x : Nat) : iter L (n + m) x = iter L m (iter L n x) := by
  induction n generalizing x with
  | zero => simp [iter]
  | succ n ih => rw [show n + 1 + m = (n + m) + 1 by omega, iter, ih, iter]
theorem iter_lin {L : Nat → Nat} (h : Lin L) (n : Nat) : Lin (iter L n) := by
  induction n with
  | zero => exact ⟨fun _ hx => hx, fun _ _ => rfl⟩
  | succ n ih => exact ih.comp h
theorem iter_two (L : Nat → Nat) (n x : Nat) : iter (fun y => L (L y)) n x = iter L (2 * n) x := by
  induction n generalizing x with
  | zero => rfl
  | succ n ih => rw [iter, ih, show 2 * (n + 1) = 2 * n + 1 + 1 by omega, iter, iter]
/-- t is the table of L. -/
def Tab (t : List Int) (L : Nat → Nat) : Prop := t.length = 32 ∧ ∀ i, i < 32 → t.getD i 0 = (L (2 ^ i) : Nat)
theorem mod_step (r n : Nat) : r % 2 ^ (n + 1) = if r / 2 ^ n % 2 = 1 then (r % 2 ^ n) ^^^ 2 ^ n else r % 2 ^ n := by
  apply Nat.eq_of_testBit_eq
  intro i
  have hb : r.testBit n = decide (r / 2 ^ n % 2 = 1) := by rw [Nat.testBit_eq_decide_div_mod_eq]
  split
  · rename_i h
    rw [decide_eq_true h] at hb
    simp only [Nat.testBit_mod_two_pow, Nat.testBit_xor, Nat.testBit_two_pow]
    by_cases e : n = i
    · subst e; simp [hb]
    · by_cases hi : i < n
      · simp [hi, e, show i < n + 1 by omega]
      · simp [hi, e, show ¬ i < n + 1 by omega]
  · rename_i h
    rw [decide_eq_false h] at hb
    simp only [Nat.testBit_mod_two_pow]
    by_cases e : n = i
    · subst e; simp [hb]
    · by_cases hi : i < n
      · simp [hi, show i < n + 1 by omega]
      · simp [hi, show ¬ i < n + 1 by omega]
theorem tabOf_nat {t : List Int} {L : Nat → Nat} (h : Tab t L) (hL : Lin L) (r : Nat) (hr : r < 2 ^ 32) (n : Nat) (hn : n ≤ 32) : tabOf t (r : Int) n = (L (r % 2 ^ n) : Nat) := by
  induction n with
  | zero => simp [tabOf, Nat.mod_one, hL.zero]
  | succ n ih =>
    have hlt : r % 2 ^ n < 2 ^ 32 := Nat.lt_of_le_of_lt (Nat.mod_le _ _) hr
    have h2 : (r : Int) / 2 ^ n = ((r / 2 ^ n : Nat) : Int) := by simp
    have h3 : r / 2 ^ n < 2 ^ 32 := Nat.lt_of_le_of_lt (Nat.div_le_self _ _) hr
    have h1 : Go.bits .and .u32 ((r / 2 ^ n : Nat) : Int) 1 = ((r / 2 ^ n % 2 : Nat) : Int) := by
      have := and32 (r / 2 ^ n) 1 h3 (by omega)
      rw [Nat.and_one_is_mod] at this
      exact this
    rw [tabOf, h2, h1, ih (by omega), h.2 n (by omega), mod_step]
    have h4 : (2 : Nat) ^ n < 2 ^ 32 := Nat.pow_lt_pow_right (by omega) (by omega)
    by_cases hb : r / 2 ^ n % 2 = 1
    · rw [if_pos (by omega), if_pos hb, xor32 _ _ (hL.lt _ hlt) (hL.lt _ h4), hL.add]
    · rw [if_neg (by omega), if_neg hb]
theorem tabOf_all {t : List Int} {L : Nat → Nat} (h : Tab t L) (hL : Lin L) (r : Nat) (hr : r < 2 ^ 32) : tabOf t (r : Int) 32 = (L r : Nat) := by
  rw [tabOf_nat h hL r hr 32 (Nat.le_refl _), Nat.mod_eq_of_lt hr]
theorem Tab.two {t : List Int} {L : Nat → Nat} (h : Tab t L) (hL : Lin L) : Tab (twoOf t 32) (fun x => L (L x)) := by
  refine ⟨twoOf_length h.1 (Nat.le_refl _), fun i hi => ?_⟩
  have hi' : i < t.length := by rw [h.1]; exact hi
  have e : t[i] = (L (2 ^ i) : Nat) := by
    have := h.2 i hi
    simpa [List.getD_eq_getElem?_getD, List.getElem?_eq_getElem hi'] using this
  have h4 : (2 : Nat) ^ i < 2 ^ 32 := Nat.pow_lt_pow_right (by omega) hi
  simp [twoOf, List.getD_eq_getElem?_getD, List.take_of_length_le (Nat.le_of_eq h.1), List.getElem?_eq_getElem hi', e]
  exact tabOf_all h hL _ (hL.lt _ h4)
theorem tab0_tab : Tab (tab0 32) N8 := by
  refine ⟨tab0_length (Nat.le_refl _), fun i hi => ?_⟩
  have h4 : (2 : Nat) ^ i < 2 ^ 32 := Nat.pow_lt_pow_right (by omega) hi
  have e : (2 : Int) ^ i % 4294967296 = ((2 ^ i : Nat) : Int) := by
    have : ((2 ^ i : Nat) : Int) = 2 ^ i := by simp
    rw [← this]
    generalize 2 ^ i = m at h4 ⊢
    omega
  simp only [tab0, Nat.sub_self, List.replicate_zero, List.append_nil, List.getD_eq_getElem?_getD, List.getElem?_map, List.getElem?_range hi, Option.map_some, Option.getD_some]
  rw [e, st8_nat _ h4]
theorem jn_nat (k : Nat) : ∀ (t : List Int) (L : Nat → Nat) (a n : Nat), Tab t L → Lin L → a < 2 ^ 32 → n < 2 ^ k → n < 2 ^ 63 → jn k t (a : Int) (n : Int) = (iter L n a : Nat) := by
  induction k with
  | zero => intro t L a n _ _ _ hn _; simp at hn; subst hn; rfl
  | succ k ih =>
    intro t L a n ht hL ha hn hn63
    rw [jn]
    by_cases h0 : n = 0
    · subst h0; simp [iter]
    · rw [if_pos (by omega)]
      have h2 : (n : Int) / 2 = ((n / 2 : Nat) : Int) := by omega
      have hb : Go.bits .and .i64 (n : Int) 1 = ((n % 2 : Nat) : Int) := by
        have := (bits_nat .i64 63 (by decide) (fun m h0 h1 => by rw [IntKind.wrap_i64]; omega) n 1 hn63 (by omega)).1
        rw [Nat.and_one_is_mod] at this
        exact this
      have hk : n / 2 < 2 ^ k := by
        have : 2 ^ (k + 1) = 2 ^ k * 2 := Nat.pow_succ 2 k
        omega
      rw [h2, hb]
      by_cases ho : n % 2 = 1
      · rw [if_pos (by omega), tabOf_all ht hL a ha, ih _ _ _ _ (ht.two hL) (hL.comp hL) (hL.lt _ ha) hk (by omega), iter_two, ← iter, show (2 * (n / 2)).succ = n by omega]
      · rw [if_neg (by omega), ih _ _ _ _ (ht.two hL) (hL.comp hL) ha hk (by omega), iter_two, show 2 * (n / 2) = n by omega]
/-- JOINED. -/
theorem joined_nat (a b n : Nat) (ha : a < 2 ^ 32) (hb : b < 2 ^ 32) (hn : n < 2 ^ 63) : crc_Joined.f a b n = some (((iter N8 n a ^^^ b : Nat) : Int), 0) := by
  unfold crc_Joined.f
  rw [if_neg (by omega), Int.toNat_natCast, jn_nat n _ N8 a n tab0_tab N8_lin ha Nat.lt_two_pow_self hn, xor32 _ _ ((iter_lin N8_lin n).lt _ ha) hb]
end Go.Proofs.Ytbeffjdplelojaa.Pr
