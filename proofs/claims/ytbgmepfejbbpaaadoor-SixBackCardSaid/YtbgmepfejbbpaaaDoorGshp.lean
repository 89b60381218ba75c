import Derived.Test.YtbgmepfejbbpaaaDoorGwr
namespace Go.Proofs.YtbgmepfejbbpaaaDoor.Pr
open Go.RowKit Go.Proofs.YtbgmepfejbbpaaaDoorW.PrintWords Go.Proofs.YtbgmepfejbbpaaaDoorW.PrintLast Go.Proofs.YtbgmepfejbbpaaaDoorW.PrintMore
set_option linter.unusedVariables false
set_option linter.unusedSimpArgs false

/-! ### The shape of an address's text -/
def hexlow (c : UInt8) : Bool := (decide (48 ≤ c.toNat) && decide (c.toNat ≤ 57)) || (decide (97 ≤ c.toNat) && decide (c.toNat ≤ 102))
def shp : List UInt8 → UInt8 → Nat → Nat → Option Nat
  | [], _, p, _ => some p
  | c :: l, prev, p, r => if c = 58 then shp l c (if prev = 58 then p + 1 else p) 0 else if hexlow c = true then (if 4 < r + 1 ∨ (r + 1 = 2 ∧ prev = 48) then none else shp l c p (r + 1)) else none
theorem hexc_low_all : ((List.range 16).all fun d => decide (hexlow (hexc d) = true ∧ hexc d ≠ 58 ∧ (hexc d = 48 → d = 0))) = true := by decide +kernel
theorem hexc_low (d : Nat) (h : d < 16) : hexlow (hexc d) = true ∧ hexc d ≠ 58 ∧ (hexc d = 48 → d = 0) := of_decide_eq_true (List.all_eq_true.1 hexc_low_all d (List.mem_range.2 h))
theorem shp_hex (d : Nat) (h : d < 16) (l : List UInt8) (prev : UInt8) (p r : Nat) (hr : r + 1 ≤ 4) (h2 : r + 1 = 2 → prev ≠ 48) : shp (hexc d :: l) prev p r = shp l (hexc d) p (r + 1) := by
  obtain ⟨h1, h3, h4⟩ := hexc_low d h
  conv => lhs; unfold shp
  rw [if_neg h3, if_pos h1, if_neg (by
    rintro (h | ⟨h, h'⟩)
    · omega
    · exact h2 h h')]
theorem digs_four (x : Nat) (hx : x < 65536) : (x < 16 ∧ digs 16 x = [hexc x]) ∨ (16 ≤ x ∧ x < 256 ∧ digs 16 x = [hexc (x / 16), hexc (x % 16)]) ∨ (256 ≤ x ∧ x < 4096 ∧ digs 16 x = [hexc (x / 16 / 16), hexc (x / 16 % 16), hexc (x % 16)]) ∨ (4096 ≤ x ∧ digs 16 x = [hexc (x / 16 / 16 / 16), hexc (x / 16 / 16 % 16), hexc (x / 16 % 16), hexc (x % 16)]) := by
  by_cases h1 : x < 16
  · exact .inl ⟨h1, digs_small h1⟩
  · by_cases h2 : x < 256
    · exact .inr (.inl ⟨by omega, h2, by rw [digs_step (by decide) (by omega), digs_small (by omega)]; rfl⟩)
    · by_cases h3 : x < 4096
      · exact .inr (.inr (.inl ⟨by omega, h3, by rw [digs_step (by decide) (by omega), digs_step (by decide) (by omega), digs_small (by omega)]; rfl⟩))
      · exact .inr (.inr (.inr ⟨by omega, by rw [digs_step (by decide) (by omega), digs_step (by decide) (by omega), digs_step (by decide) (by omega), digs_small (by omega)]; rfl⟩))
theorem shp_digs (x : Nat) (hx : x < 65536) (prev : UInt8) (p : Nat) : ∃ c r, c ≠ 58 ∧ ∀ l, shp (digs 16 x ++ l) prev p 0 = shp l c p r := by
  rcases digs_four x hx with ⟨h, e⟩ | ⟨h, h', e⟩ | ⟨h, h', e⟩ | ⟨h, e⟩
  · refine ⟨_, 1, (hexc_low x h).2.1, fun l => ?_⟩
    rw [e]
    exact shp_hex x h l prev p 0 (by decide) (by simp)
  · refine ⟨_, 2, (hexc_low (x % 16) (by omega)).2.1, fun l => ?_⟩
    rw [e]
    show shp (hexc (x / 16) :: hexc (x % 16) :: l) prev p 0 = _
    rw [shp_hex _ (by omega) _ _ _ _ (by decide) (by simp), shp_hex _ (by omega) _ _ _ _ (by decide) (fun _ e => by have := (hexc_low (x / 16) (by omega)).2.2 e; omega)]
  · refine ⟨_, 3, (hexc_low (x % 16) (by omega)).2.1, fun l => ?_⟩
    rw [e]
    show shp (hexc (x / 16 / 16) :: hexc (x / 16 % 16) :: hexc (x % 16) :: l) prev p 0 = _
    rw [shp_hex _ (by omega) _ _ _ _ (by decide) (by simp), shp_hex _ (by omega) _ _ _ _ (by decide) (fun _ e => by have := (hexc_low (x / 16 / 16) (by omega)).2.2 e; omega), shp_hex _ (by omega) _ _ _ _ (by decide) (by simp)]
  · refine ⟨_, 4, (hexc_low (x % 16) (by omega)).2.1, fun l => ?_⟩
    rw [e]
    show shp (hexc (x / 16 / 16 / 16) :: hexc (x / 16 / 16 % 16) :: hexc (x / 16 % 16) :: hexc (x % 16) :: l) prev p 0 = _
    rw [shp_hex _ (by omega) _ _ _ _ (by decide) (by simp), shp_hex _ (by omega) _ _ _ _ (by decide) (fun _ e => by have := (hexc_low (x / 16 / 16 / 16) (by omega)).2.2 e; omega), shp_hex _ (by omega) _ _ _ _ (by decide) (by simp), shp_hex _ (by omega) _ _ _ _ (by decide) (by simp)]
theorem shp_colon (l : List UInt8) (prev : UInt8) (p r : Nat) : shp (58 :: l) prev p r = shp l 58 (if prev = 58 then p + 1 else p) 0 := by
  conv => lhs; unfold shp
  rw [if_pos rfl]
theorem shp_join : ∀ (L : List Nat), L ≠ [] → (∀ x ∈ L, x < 65536) → ∀ (prev : UInt8) (p : Nat), ∃ c r, c ≠ 58 ∧ ∀ l, shp (joinB L ++ l) prev p 0 = shp l c p r
  | [], h, _, _, _ => absurd rfl h
  | [x], _, hx, prev, p => by
    obtain ⟨c, r, hc, h⟩ := shp_digs x (hx x (by simp)) prev p
    exact ⟨c, r, hc, fun l => by rw [joinB_one]; exact h l⟩
  | x :: y :: t, _, hx, prev, p => by
    obtain ⟨c, r, hc, h⟩ := shp_digs x (hx x (by simp)) prev p
    obtain ⟨c2, r2, hc2, h2⟩ := shp_join (y :: t) (by simp) (fun z hz => hx z (List.mem_cons_of_mem _ hz)) 58 p
    refine ⟨c2, r2, hc2, fun l => ?_⟩
    rw [joinB_cons, List.append_assoc, h, List.cons_append, shp_colon, if_neg hc, h2]
theorem joinB_size : ∀ (L : List Nat), L ≠ [] → (∀ x ∈ L, x < 65536) → 2 * L.length ≤ (joinB L).length + 1 ∧ (joinB L).length + 1 ≤ 5 * L.length
  | [], h, _ => absurd rfl h
  | [x], _, hx => by
    have h1 := digs_le16 4 x (by decide) (hx x (by simp))
    have h2 := List.length_pos_iff.2 (digs_ne 16 x)
    rw [joinB_one]
    simp only [List.length_cons, List.length_nil]
    omega
  | x :: y :: t, _, hx => by
    have h1 := digs_le16 4 x (by decide) (hx x (by simp))
    have h2 := List.length_pos_iff.2 (digs_ne 16 x)
    have ih := joinB_size (y :: t) (by simp) (fun z hz => hx z (List.mem_cons_of_mem _ hz))
    rw [joinB_cons]
    simp only [List.length_cons, List.length_append] at ih ⊢
    omega
def zK (L : List Nat) : Nat → Bool
  | 0 => false
  | i + 1 => zK L i || (decide (L.getD i 0 = 0) && decide (L.getD (i + 1) 0 = 0))
theorem zK_true (L : List Nat) (k : Nat) (h0 : L.getD k 0 = 0) (h1 : L.getD (k + 1) 0 = 0) : ∀ i, k < i → zK L i = true
  | 0, h => absurd h (by omega)
  | i + 1, h => by
    unfold zK
    by_cases e : k = i
    · subst e
      rw [decide_eq_true h0, decide_eq_true h1]; simp
    · rw [zK_true L k h0 h1 i (by omega)]; rfl
theorem runZ_two (L : List Nat) (k : Nat) (hk : k + 1 < L.length) : 2 ≤ runZ (L.drop k) ↔ (L.getD k 0 = 0 ∧ L.getD (k + 1) 0 = 0) := by
  have e1 : L.getD k 0 = L[k] := by simp [List.getD, show k < L.length by omega]
  have e2 : L.getD (k + 1) 0 = L[k + 1] := by simp [List.getD, hk]
  rw [e1, e2, List.drop_eq_getElem_cons (by omega), List.drop_eq_getElem_cons hk]
  unfold runZ
  by_cases h : L[k] = 0
  · rw [if_pos h]
    unfold runZ
    by_cases h2 : L[k + 1] = 0
    · rw [if_pos h2]
      exact ⟨fun _ => ⟨h, h2⟩, fun _ => by omega⟩
    · rw [if_neg h2]
      exact ⟨fun e => absurd e (by omega), fun e => absurd e.2 h2⟩
  · rw [if_neg h]
    exact ⟨fun e => absurd e (by omega), fun e => absurd e.1 h⟩
theorem zK_false (L : List Nat) (h : ∀ j, runZ (L.drop j) ≤ 1) : ∀ i, i < L.length → zK L i = false
  | 0, _ => rfl
  | i + 1, hi => by
    unfold zK
    rw [zK_false L h i (by omega), Bool.false_or]
    have := h i
    by_cases e : L.getD i 0 = 0 ∧ L.getD (i + 1) 0 = 0
    · have := (runZ_two L i hi).2 e
      omega
    · simp only [Bool.and_eq_false_iff, decide_eq_false_iff_not]
      by_cases e0 : L.getD i 0 = 0
      · exact .inr fun e1 => e ⟨e0, e1⟩
      · exact .inl e0
theorem shape_ok (L : List Nat) (hL : L.length = 8) (h16 : ∀ n ∈ L, n < 65536) : ∃ P, shp (textF L) 0 0 0 = some P ∧ ((P = 0 ∧ zK L 7 = false) ∨ (P = 1 ∧ zK L 7 = true)) ∧ 2 ≤ (textF L).length ∧ (textF L).length ≤ 39 := by
  unfold textF textOf
  have hb := (best_all L).1
  have hz := (best_all L).2
  generalize bestF L 0 (-1) 1 = b at hb hz
  obtain ⟨a, m⟩ := b
  rcases hb with ⟨h1, h2⟩ | ⟨h1, h2, h3, h4⟩
  · simp only at h1 hz ⊢
    rw [if_pos (by omega)]
    obtain ⟨c, r, hc, h⟩ := shp_join L (by rintro rfl; simp at hL) h16 0 0
    have hs := joinB_size L (by rintro rfl; simp at hL) h16
    have := h []
    rw [List.append_nil] at this
    refine ⟨0, by rw [this]; rfl, .inl ⟨rfl, zK_false L (hz (by omega)) 7 (by omega)⟩, by omega, by omega⟩
  · simp only at h1 h2 h3 h4 ⊢
    obtain ⟨k, rfl⟩ := Int.eq_ofNat_of_zero_le h1
    rw [Int.toNat_natCast] at h3 h4 ⊢
    rw [if_neg (by omega)]
    have hz7 : zK L 7 = true := by
      have := (runZ_two L k (by omega)).1 (by omega)
      exact zK_true L k this.1 this.2 7 (by omega)
    have w1 : ∀ x ∈ L.take k, x < 65536 := fun x hx => h16 x (List.mem_of_mem_take hx)
    have w2 : ∀ x ∈ L.drop (k + m), x < 65536 := fun x hx => h16 x (List.mem_of_mem_drop hx)
    have l1 : (L.take k).length = k := by rw [List.length_take]; omega
    have l2 : (L.drop (k + m)).length = 8 - (k + m) := by rw [List.length_drop]; omega
    have z1 : (joinB (L.take k)).length ≤ 5 * k := by
      by_cases h0 : L.take k = []
      · rw [h0, joinB_nil]; simp
      · have := (joinB_size _ h0 w1).2
        rw [l1] at this; omega
    have z2 : (joinB (L.drop (k + m))).length ≤ 5 * (8 - (k + m)) := by
      by_cases h0 : L.drop (k + m) = []
      · rw [h0, joinB_nil]; simp
      · have := (joinB_size _ h0 w2).2
        rw [l2] at this; omega
    refine ⟨1, ?_, .inr ⟨rfl, hz7⟩, by simp only [List.length_append, List.length_cons, List.length_nil]; omega, by simp only [List.length_append, List.length_cons, List.length_nil]; omega⟩
    have hB : ∀ prev, shp (joinB (L.drop (k + m))) prev 1 0 = some 1 := fun prev => by
      by_cases h0 : L.drop (k + m) = []
      · rw [h0, joinB_nil]; rfl
      · obtain ⟨c, r, hc, h⟩ := shp_join _ h0 w2 prev 1
        have := h []
        rw [List.append_nil] at this
        rw [this]; rfl
    rw [List.append_assoc]
    by_cases h0 : L.take k = []
    · rw [h0, joinB_nil, List.nil_append]
      show shp (58 :: 58 :: joinB (L.drop (k + m))) 0 0 0 = _
      rw [shp_colon, if_neg (by decide), shp_colon, if_pos rfl]
      exact hB _
    · obtain ⟨c, r, hc, h⟩ := shp_join _ h0 w1 0 0
      rw [h]
      show shp (58 :: 58 :: joinB (L.drop (k + m))) c 0 r = _
      rw [shp_colon, if_neg hc, shp_colon, if_pos rfl]
      exact hB _
end Go.Proofs.YtbgmepfejbbpaaaDoor.Pr
