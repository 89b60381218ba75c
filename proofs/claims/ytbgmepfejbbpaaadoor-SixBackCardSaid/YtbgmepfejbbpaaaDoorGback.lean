import Derived.Test.YtbgmepfejbbpaaaDoorGpcs
import Derived.Test.YtbgmepfejbbpaaaDoorPrA1
import Derived.Test.YtbgmepfejbbpaaaDoorPrA2
namespace Go.Proofs.YtbgmepfejbbpaaaDoor.Pr
open Go.RowKit Go.Proofs.YtbgmepfejbbpaaaDoorW.PrintWords Go.Proofs.YtbgmepfejbbpaaaDoorW.PrintLast Go.Proofs.YtbgmepfejbbpaaaDoorW.PrintMore
set_option linter.unusedVariables false
set_option linter.unusedSimpArgs false

/-! ### However an address is written: in pieces, with two colons in place of noughts, the last two dotted -/
def rwK (W : Nat → List UInt8) (L : List Nat) (b : Int × Nat) : Nat → List UInt8
  | 0 => []
  | i + 1 => if 0 ≤ b.1 ∧ b.1 ≤ (i : Int) ∧ (i : Int) < b.1 + (b.2 : Int) then (if (i : Int) = b.1 then rwK W L b i ++ [58, 58] else rwK W L b i) else (if 0 < i ∧ ((i : Int) ≠ b.1 + (b.2 : Int) ∨ b.1 < 0) then (rwK W L b i ++ [58]) ++ W (L.getD i 0) else rwK W L b i ++ W (L.getD i 0))
theorem rwK_lo (W : Nat → List UInt8) (L : List Nat) (b : Int × Nat) : ∀ i : Nat, (b.1 < 0 ∨ (i : Int) ≤ b.1) → i ≤ L.length → rwK W L b i = joinP ((L.take i).map W)
  | 0, _, _ => rfl
  | i + 1, hb, hi => by
    have ih := rwK_lo W L b i (by omega) (by omega)
    rw [joinP_take W L i (by omega)]
    unfold rwK
    rw [if_neg (by omega), ih]
    by_cases h0 : i = 0
    · subst h0
      rw [if_neg (by omega), if_pos rfl]
      rfl
    · rw [if_neg h0, if_pos (by omega)]
      simp
theorem rwK_mid (W : Nat → List UInt8) (L : List Nat) (k m : Nat) (hk : k ≤ L.length) : ∀ i : Nat, k < i → i ≤ k + m → rwK W L ((k : Int), m) i = joinP ((L.take k).map W) ++ [58, 58]
  | 0, h, _ => absurd h (by omega)
  | i + 1, h1, h2 => by
    unfold rwK
    rw [if_pos ⟨by simp, by simp; omega, by simp; omega⟩]
    by_cases he : i = k
    · subst he
      rw [if_pos rfl, rwK_lo W L _ i (by simp) hk]
    · rw [if_neg (by simp; omega)]
      exact rwK_mid W L k m hk i (by omega) (by omega)
theorem rwK_hi (W : Nat → List UInt8) (L : List Nat) (k m : Nat) (hm : 1 ≤ m) : ∀ i : Nat, k + m ≤ i → i ≤ L.length → rwK W L ((k : Int), m) i = joinP ((L.take k).map W) ++ 58 :: 58 :: joinP (((L.drop (k + m)).take (i - (k + m))).map W)
  | 0, h, _ => absurd h (by omega)
  | i + 1, h1, h2 => by
    by_cases he : k + m = i + 1
    · rw [← he, rwK_mid W L k m (by omega) (k + m) (by omega) (Nat.le_refl _)]
      simp [joinP]
    · unfold rwK
      rw [if_neg (by simp; omega), rwK_hi W L k m hm i (by omega) (by omega)]
      have ht := joinP_take W (L.drop (k + m)) (i - (k + m)) (by rw [List.length_drop]; omega)
      have hg : (L.drop (k + m)).getD (i - (k + m)) 0 = L.getD i 0 := by
        rw [List.getD_eq_getElem?_getD, List.getD_eq_getElem?_getD, List.getElem?_drop, show k + m + (i - (k + m)) = i by omega]
      rw [hg] at ht
      rw [show i + 1 - (k + m) = i - (k + m) + 1 by omega, ht]
      by_cases h0 : i - (k + m) = 0
      · rw [if_pos h0, if_neg (by simp; omega), h0]
        simp [joinP]
      · rw [if_neg h0, if_pos (by simp; omega)]
        simp
theorem rwK_len {W : Nat → List UInt8} {L : List Nat} (b : Int × Nat) (hW : ∀ x, x ∈ L → (W x).length ≤ 4) (h0 : (W 0).length ≤ 4) : ∀ i, (rwK W L b i).length ≤ 6 * i
  | 0 => Nat.le_refl _
  | i + 1 => by
    have ih := rwK_len b hW h0 i
    have hx : (W (L.getD i 0)).length ≤ 4 := by
      rw [List.getD_eq_getElem?_getD]
      cases h : L[i]? with
      | none => exact h0
      | some x => exact hW x (List.mem_of_getElem? h)
    unfold rwK
    split
    · split
      · simp only [List.length_append, List.length_cons, List.length_nil]; omega
      · omega
    · split
      · simp only [List.length_append, List.length_cons, List.length_nil]; omega
      · simp only [List.length_append]; omega
/-- The gap: nowhere, or noughts. -/
def GapP (L : List Nat) (b : Int × Nat) : Prop := (b.1 = -1 ∧ b.2 = 1) ∨ (∃ k : Nat, b.1 = (k : Int) ∧ 1 ≤ b.2 ∧ k + b.2 ≤ L.length ∧ (L.drop k).take b.2 = List.replicate b.2 0)
theorem mid_back (L : List Nat) (k m : Nat) (h4 : k + m ≤ 8) (hL : L.length = 8) (h : (L.drop k).take m = List.replicate m 0) : L.take k ++ List.replicate m 0 ++ L.drop (k + m) = L := by
  rw [← h, ← List.drop_drop, List.append_assoc, List.take_append_drop, List.take_append_drop]
theorem back_all {W : Nat → List UInt8} {L : List Nat} (hL : L.length = 8) (hW : ∀ x ∈ L, Wrt W x) (b : Int × Nat) (hb : GapP L b) : sixA (rwK W L b 8) = some L := by
  obtain ⟨a, m⟩ := b
  rw [sixA_ref]
  rcases hb with ⟨h1, h2⟩ | ⟨k, h1, h2, h3, h4⟩
  · simp only at h1
    rw [← hL, rwK_lo W L _ _ (.inl (by simp only; omega)) (Nat.le_refl _), List.take_length, refA_join _ L (okp_map hW) (piL_map true L hW), if_pos hL]
  · simp only at h1 h2 h3 h4
    subst h1
    have w1 : ∀ x ∈ L.take k, Wrt W x := fun x hx => hW x (List.mem_of_mem_take hx)
    have w2 : ∀ x ∈ L.drop (k + m), Wrt W x := fun x hx => hW x (List.mem_of_mem_drop hx)
    have e := refA_gap _ _ _ _ (okp_map w1) (okp_map w2) (piL_map false _ w1) (piL_map true _ w2)
    have l1 : (L.take k).length = k := by rw [List.length_take]; omega
    have l2 : (L.drop (k + m)).length = 8 - (k + m) := by rw [List.length_drop]; omega
    rw [l1, l2, if_neg (by omega), show 8 - (k + (8 - (k + m))) = m by omega, mid_back L k m (by omega) hL h4] at e
    rw [rwK_hi W L k m h2 8 (by omega) (by omega), List.take_of_length_le (l := L.drop (k + m)) (by rw [List.length_drop]; omega)]
    exact e
/-- The last two dotted: 'D'. -/
def dotT (W : Nat → List UInt8) (L : List Nat) (b : Int × Nat) (D : List UInt8) : List UInt8 := (if (6 : Int) ≠ b.1 + (b.2 : Int) ∨ b.1 < 0 then rwK W L b 6 ++ [58] else rwK W L b 6) ++ D
theorem okp_snoc {ps : List (List UInt8)} {D : List UInt8} (h : Okp ps) (h1 : D ≠ []) (h2 : 58 ∉ D) : Okp (ps ++ [D]) := by
  intro p hp
  rcases List.mem_append.1 hp with hp | hp
  · exact h p hp
  · rw [List.mem_singleton.1 hp]; exact ⟨h1, h2⟩
theorem back_dot {W : Nat → List UInt8} {L : List Nat} (hL : L.length = 8) (hW : ∀ x ∈ L, Wrt W x) (b : Int × Nat) (hb : GapP L b) (h6 : b.1 + (b.2 : Int) ≤ 6) (D : List UInt8) (hD : rdotF D = some (L.drop 6)) (hD1 : D ≠ []) (hD2 : 58 ∉ D) : sixA (dotT W L b D) = some L := by
  obtain ⟨a, m⟩ := b
  rw [sixA_ref]
  unfold dotT
  rcases hb with ⟨h1, h2⟩ | ⟨k, h1, h2, h3, h4⟩
  · simp only at h1 ⊢
    have w1 : ∀ x ∈ L.take 6, Wrt W x := fun x hx => hW x (List.mem_of_mem_take hx)
    have hne : (L.take 6).map W ≠ [] := fun e => by
      have := congrArg List.length e
      rw [List.length_map, List.length_take, List.length_nil] at this
      omega
    have hj := joinP_snoc D ((L.take 6).map W)
    rw [if_neg hne] at hj
    rw [if_pos (.inr (by omega)), rwK_lo W L _ _ (.inl (by simp only; omega)) (by omega)]
    have e : joinP ((L.take 6).map W) ++ [58] ++ D = joinP ((L.take 6).map W ++ [D]) := by rw [hj]; simp
    rw [e, refA_join _ _ (okp_snoc (okp_map w1) hD1 hD2) (piL_dot D _ hD _ w1), List.take_append_drop, if_pos hL]
  · simp only at h1 h2 h3 h4 h6 ⊢
    subst h1
    have w1 : ∀ x ∈ L.take k, Wrt W x := fun x hx => hW x (List.mem_of_mem_take hx)
    have w2 : ∀ x ∈ (L.drop (k + m)).take (6 - (k + m)), Wrt W x := fun x hx => hW x (List.mem_of_mem_drop (List.mem_of_mem_take hx))
    have e := refA_gap _ _ _ _ (okp_map w1) (okp_snoc (okp_map w2) hD1 hD2) (piL_map false _ w1) (piL_dot D _ hD _ w2)
    have hdd : (L.drop (k + m)).take (6 - (k + m)) ++ L.drop 6 = L.drop (k + m) := by
      have : L.drop 6 = (L.drop (k + m)).drop (6 - (k + m)) := by rw [List.drop_drop, show k + m + (6 - (k + m)) = 6 by omega]
      rw [this, List.take_append_drop]
    have l1 : (L.take k).length = k := by rw [List.length_take]; omega
    have l2 : (L.drop (k + m)).length = 8 - (k + m) := by rw [List.length_drop]; omega
    rw [hdd, l1, l2, if_neg (by omega), show 8 - (k + (8 - (k + m))) = m by omega, mid_back L k m (by omega) hL h4] at e
    rw [← e, rwK_hi W L k m h2 6 (by omega) (by omega)]
    congr 1
    have hj := joinP_snoc D (((L.drop (k + m)).take (6 - (k + m))).map W)
    by_cases h66 : k + m = 6
    · rw [if_neg (by omega)]
      have h0 : (L.drop (k + m)).take (6 - (k + m)) = [] := by rw [h66]; rfl
      rw [h0] at hj ⊢
      rw [hj]
      simp [joinP]
    · have hne : ((L.drop (k + m)).take (6 - (k + m))).map W ≠ [] := fun e => by
        have := congrArg List.length e
        rw [List.length_map, List.length_take, List.length_drop, List.length_nil] at this
        omega
      rw [if_neg hne] at hj
      rw [if_pos (.inl (by omega)), hj]
      simp
/-! the dotted text -/
theorem decV_snoc (c : UInt8) (d : Nat) (hc : c.toNat = 48 + d) (hd : d < 10) : ∀ (l : List UInt8) (v a : Nat), decV l v = some a → decV (l ++ [c]) v = some (10 * a + d)
  | [], v, a, h => by
    cases h
    show decV [c] v = _
    unfold decV
    rw [if_pos (by omega)]
    show some _ = _
    congr 1
    omega
  | b :: l, v, a, h => by
    show decV (b :: (l ++ [c])) v = _
    unfold decV at h ⊢
    split at h
    · next hb => rw [if_pos hb]; exact decV_snoc c d hc hd l _ a h
    · cases h
theorem hexc_dec_all : ((List.range 10).all fun d => decide ((hexc d).toNat = 48 + d ∧ hexc d ≠ 46 ∧ hexc d ≠ 58 ∧ (hexc d = 48 → d = 0))) = true := by decide +kernel
theorem hexc_dec (d : Nat) (h : d < 10) : (hexc d).toNat = 48 + d ∧ hexc d ≠ 46 ∧ hexc d ≠ 58 ∧ (hexc d = 48 → d = 0) := of_decide_eq_true (List.all_eq_true.1 hexc_dec_all d (List.mem_range.2 h))
theorem decV_digs (n : Nat) : decV (digs 10 n) 0 = some n := by
  induction n using Nat.strongRecOn with
  | _ n ih =>
    by_cases h : n < 10
    · rw [digs_small h]
      have := decV_snoc (hexc n) n (hexc_dec n h).1 h [] 0 0 rfl
      simpa using this
    · rw [digs_step (by decide) (by omega), decV_snoc _ (n % 10) (hexc_dec _ (by omega)).1 (by omega) _ _ _ (ih (n / 10) (by omega))]
      congr 1
      omega
theorem digs_mem10 (n : Nat) : ∀ c ∈ digs 10 n, c ≠ 46 ∧ c ≠ 58 := by
  induction n using Nat.strongRecOn with
  | _ n ih =>
    intro c hc
    by_cases h : n < 10
    · rw [digs_small h] at hc
      rw [List.mem_singleton.1 hc]
      exact ⟨(hexc_dec n h).2.1, (hexc_dec n h).2.2.1⟩
    · rw [digs_step (by decide) (by omega)] at hc
      rcases List.mem_append.1 hc with hc | hc
      · exact ih (n / 10) (by omega) c hc
      · rw [List.mem_singleton.1 hc]
        exact ⟨(hexc_dec _ (by omega)).2.1, (hexc_dec _ (by omega)).2.2.1⟩
theorem octF_digs (n : Nat) (hn : n < 256) : octF (digs 10 n) = some n := by
  have hb : ¬ octBad (digs 10 n) := by
    unfold octBad
    by_cases h1 : n < 10
    · rw [digs_small h1]; simp
    · by_cases h2 : n < 100
      · rw [digs_step (by decide) (by omega), digs_small (by omega)]
        have := (hexc_dec (n / 10) (by omega)).2.2.2
        simp
        intro e; have := this e; omega
      · rw [digs_step (by decide) (by omega), digs_step (by decide) (by omega), digs_small (by omega)]
        have := (hexc_dec (n / 10 / 10) (by omega)).2.2.2
        simp
        intro e; have := this e; omega
  unfold octF
  rw [if_neg (by
    rintro (h | h)
    · exact digs_ne 10 n h
    · exact hb h), decV_digs]
  simp only
  rw [if_neg (by omega)]
def dotD (x y : Nat) : List UInt8 := digs 10 (x / 256) ++ 46 :: (digs 10 (x % 256) ++ 46 :: (digs 10 (y / 256) ++ 46 :: digs 10 (y % 256)))
theorem dotD_reads (x y : Nat) (hx : x < 65536) (hy : y < 65536) : rdotF (dotD x y) = some [x, y] ∧ dotD x y ≠ [] ∧ 58 ∉ dotD x y := by
  have f : ∀ n, 46 ∉ digs 10 n := fun n e => (digs_mem10 n _ e).1 rfl
  have f2 : ∀ n, 58 ∉ digs 10 n := fun n e => (digs_mem10 n _ e).2 rfl
  refine ⟨?_, by unfold dotD; simp, ?_⟩
  · unfold rdotF dotD
    rw [pcs_app 46 _ _ (f _), pcs_app 46 _ _ (f _), pcs_app 46 _ _ (f _), pcs_free 46 _ (f _), if_pos (by rfl)]
    simp only [octs, octF_digs (x / 256) (by omega), octF_digs (x % 256) (by omega), octF_digs (y / 256) (by omega), octF_digs (y % 256) (by omega), two4]
    congr 2
    · omega
    · congr 1
      omega
  · unfold dotD
    simp [f2]
theorem dotD_len (x y : Nat) (hx : x < 65536) (hy : y < 65536) : (dotD x y).length ≤ 100 := by
  have h : ∀ n, n < 256 → (digs 10 n).length ≤ 9 := fun n hn => digs_length 10 (by decide) 8 n hn
  have h1 := h (x / 256) (by omega)
  have h2 := h (x % 256) (by omega)
  have h3 := h (y / 256) (by omega)
  have h4 := h (y % 256) (by omega)
  unfold dotD
  simp only [List.length_append, List.length_cons]
  omega
/-! ### What the law's ten writes; noughts in an address -/
theorem son_all : ((List.range 10).all fun d => decide (strOfNums [((48 + d : Nat) : Int)] = mkB [hexc d])) = true := by decide +kernel
theorem son (d : Nat) (h : d < 10) : strOfNums [((48 + d : Nat) : Int)] = mkB [hexc d] := of_decide_eq_true (List.all_eq_true.1 son_all d (List.mem_range.2 h))
theorem tennums (n : Nat) (hn : n < 256) : IntKind.u16.wrap (48 + Int.tmod (n : Int) 10) % 256 = ((48 + n % 10 : Nat) : Int) ∧ IntKind.u16.wrap (Int.tdiv (n : Int) 10) = ((n / 10 : Nat) : Int) := by
  have e1 : Int.tmod (n : Int) 10 = ((n % 10 : Nat) : Int) := by rw [Int.tmod_eq_emod_of_nonneg (by omega)]; omega
  have e2 : Int.tdiv (n : Int) 10 = ((n / 10 : Nat) : Int) := by rw [Int.tdiv_eq_ediv_of_nonneg (by omega)]; omega
  rw [e1, e2, IntWalk.u16_in _ (by omega), IntWalk.u16_in _ (by omega)]
  refine ⟨by omega, rfl⟩
theorem len3 (s : List UInt8) (x : UInt8) (h : s.length ≤ 10) : (mkB [x]).size + (mkB s).size ≤ 9223372036854775807 := by
  rw [mkB_size, mkB_size, List.length_singleton]
  omega
theorem toL_ne {s : List UInt8} (h : s ≠ []) : ¬ (mkB s).toList = [] := fun e => by
  have := mkB_empty s
  rw [e] at this
  exact h (by simpa using this.symm)
theorem toL_nil : (mkB []).toList = [] := by
  have := mkB_empty []
  simpa using this
theorem ten_go (m : Nat) : ∀ (n k : Nat) (s : List UInt8), n < 256 → n < 10 ^ m → (0 < n ∨ s = []) → s.length ≤ 5 - m → m ≤ 4 → m + 2 ≤ k → portcullislaw11_ten.l0 k (n : Int) (mkB s) = some (mkB (digs 10 n ++ s)) := by
  induction m with
  | zero =>
    intro n k s hn hm hs hl h4 hk
    have hn0 : n = 0 := by simpa using hm
    subst hn0
    rcases hs with h | rfl
    · exact absurd h (by decide)
    · obtain ⟨k, rfl⟩ : ∃ k', k = k' + 2 := ⟨k - 2, by omega⟩
      simp only [portcullislaw11_ten.l0]
      obtain ⟨e1, e2⟩ := tennums 0 (by decide)
      have e3 := son 0 (by decide)
      rw [if_pos toL_nil]
      simp only [Option.bind_some]
      rw [e1, e2, show (0 % 10 : Nat) = 0 from rfl, e3, mkB_append, if_pos (len3 [] _ (by decide))]
      rw [if_neg (toL_ne (by simp)), if_neg (by simp)]
      rw [digs_small (by decide : 0 < 10)]
  | succ m ih =>
    intro n k s hn hm hs hl h4 hk
    obtain ⟨k, rfl⟩ : ∃ k', k = k' + 1 := ⟨k - 1, by omega⟩
    have hd : n % 10 < 10 := by omega
    have hq : n / 10 < 10 ^ m := by rw [Nat.pow_succ] at hm; omega
    have hq2 : n / 10 < 256 := by omega
    have hl2 : (hexc (n % 10) :: s).length ≤ 5 - m := by simp; omega
    have hl10 : s.length ≤ 10 := by omega
    have hk2 : m + 2 ≤ k := by omega
    have hm4 : m ≤ 4 := by omega
    have hpos : 0 < n → (n : Int) > 0 := fun h => by omega
    have hrest : portcullislaw11_ten.l0 k ((n / 10 : Nat) : Int) (mkB (hexc (n % 10) :: s)) = some (mkB (digs 10 n ++ s)) := by
      by_cases h10 : n < 10
      · have hz : n / 10 = 0 := by omega
        rw [hz, digs_small h10, Nat.mod_eq_of_lt h10]
        obtain ⟨k, rfl⟩ : ∃ k', k = k' + 1 := ⟨k - 1, by omega⟩
        simp only [portcullislaw11_ten.l0]
        rw [if_neg (toL_ne (by simp)), if_neg (by simp)]
        rfl
      · rw [ih (n / 10) k _ hq2 hq (.inl (by omega)) hl2 hm4 hk2, digs_step (n := n) (by decide) (by omega)]
        simp
    obtain ⟨e1, e2⟩ := tennums n hn
    have e3 := son (n % 10) hd
    have h3 := len3 s (hexc (n % 10)) hl10
    simp only [portcullislaw11_ten.l0]
    by_cases hse : s = []
    · subst hse
      rw [if_pos toL_nil]
      simp only [Option.bind_some]
      rw [e1, e2, e3, mkB_append, if_pos h3]
      exact hrest
    · rw [if_neg (toL_ne hse), if_pos (hpos (hs.resolve_right hse))]
      simp only [Option.bind_some]
      rw [e1, e2, e3, mkB_append, if_pos h3]
      exact hrest
theorem tencall (a : Int) (n : Nat) (hn : n < 256) (ha : a = (n : Int)) (W : World) : Calls Tryd.prog 12 #[.int .u16 a] W fun e w' => e = .returned (.string (mkB (digs 10 n))) ∧ Below W.heap.size W w' := by
  subst ha
  refine portcullislaw11_ten.calls 10 (n : Int) _ W ?_
  have := ten_go 3 n 10 [] hn (by omega) (.inr rfl) (by decide) (by decide) (by decide)
  rw [List.append_nil] at this
  exact this
/-! noughts -/
def zf (f : Nat → Nat) (i m : Nat) (j : Nat) : Nat := if i ≤ j ∧ j < m then 0 else f j
theorem zf_none (f : Nat → Nat) (i : Nat) : zf f i i = f := by
  funext j
  unfold zf
  rw [if_neg (by omega)]
def zL (L : List Nat) (i k : Nat) : List Nat := L.take i ++ (List.replicate (k - i) 0 ++ L.drop k)
theorem zL_len (L : List Nat) (i k : Nat) (hL : L.length = 8) (hi : i < k) (hk : k ≤ 8) : (zL L i k).length = 8 := by
  unfold zL
  simp only [List.length_append, List.length_take, List.length_replicate, List.length_drop]
  omega
theorem zL_lt (L : List Nat) (i k : Nat) (h : ∀ x ∈ L, x < 65536) : ∀ x ∈ zL L i k, x < 65536 := by
  intro x hx
  unfold zL at hx
  rcases List.mem_append.1 hx with hx | hx
  · exact h x (List.mem_of_mem_take hx)
  · rcases List.mem_append.1 hx with hx | hx
    · rw [List.eq_of_mem_replicate hx]; decide
    · exact h x (List.mem_of_mem_drop hx)
theorem zL_gap (L : List Nat) (i k : Nat) (hL : L.length = 8) (hi : i < k) (hk : k ≤ 8) : ((zL L i k).drop i).take (k - i) = List.replicate (k - i) 0 := by
  unfold zL
  have l1 : (L.take i).length = i := by rw [List.length_take]; omega
  rw [List.drop_append, l1, Nat.sub_self, List.drop_zero, List.drop_eq_nil_of_le (by omega), List.nil_append, List.take_append, List.length_replicate, Nat.sub_self, List.take_zero, List.append_nil]
  exact List.take_of_length_le (by simp)
theorem zL_pad (L : List Nat) (i k : Nat) (hL : L.length = 8) (hi : i < k) (hk : k ≤ 8) (j : Nat) (hj : j < 8) : zf (pad8 L) i k j = pad8 (zL L i k) j := by
  have l1 : (L.take i).length = i := by rw [List.length_take]; omega
  unfold zf pad8 zL
  rw [List.getD_eq_getElem?_getD, List.getD_eq_getElem?_getD, List.getElem?_append, l1]
  by_cases h1 : j < i
  · rw [if_neg (by omega), if_pos h1, List.getElem?_take, if_pos h1]
  · rw [if_neg h1, List.getElem?_append, List.length_replicate]
    by_cases h2 : j < k
    · rw [if_pos ⟨by omega, h2⟩, if_pos (by omega), List.getElem?_replicate, if_pos (by omega)]; rfl
    · rw [if_neg (by omega), if_neg (by omega), List.getElem?_drop]
      congr 2
      omega
end Go.Proofs.YtbgmepfejbbpaaaDoor.Pr
