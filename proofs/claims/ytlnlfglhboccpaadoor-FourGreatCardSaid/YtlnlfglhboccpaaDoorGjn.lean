import Derived.Test.YtlnlfglhboccpaaDoorGwr
namespace Go.Proofs.YtlnlfglhboccpaaDoor.Pr
open Go.RowKit Go.Proofs.YtlnlfglhboccpaaDoorW.PrintWords Go.Proofs.YtlnlfglhboccpaaDoorW.PrintLast Go.Proofs.YtlnlfglhboccpaaDoorW.PrintMore
set_option linter.unusedVariables false
set_option linter.unusedSimpArgs false

/-! ### Pieces with dots between -/
def joinD : List (List UInt8) → List UInt8
  | [] => []
  | [p] => p
  | p :: q :: r => p ++ 46 :: joinD (q :: r)
theorem joinD_snoc (p : List UInt8) : ∀ ps : List (List UInt8), ps ≠ [] → joinD (ps ++ [p]) = joinD ps ++ 46 :: p
  | [], h => absurd rfl h
  | [x], _ => rfl
  | x :: y :: r, _ => by
    have := joinD_snoc p (y :: r) (by simp)
    simp only [List.cons_append] at this ⊢
    rw [joinD, this, joinD]
    simp
theorem pcs_word (p : List UInt8) (h : ∀ c ∈ p, c ≠ 46) (l : List UInt8) : pcs 46 (p ++ l) = pend p (pcs 46 l) := by
  induction p with
  | nil => rw [List.nil_append, pend_nil (pcs_ne _ _)]
  | cons c p ih =>
    rw [List.cons_append, pcs_miss c _ (h c (by simp)), ih (fun x hx => h x (by simp [hx]))]
    simp [pend]
theorem pcs_one (p : List UInt8) (h : ∀ c ∈ p, c ≠ 46) : pcs 46 p = [p] := by
  have := pcs_word p h []
  rw [List.append_nil] at this
  rw [this]; simp [pend, pcs]
theorem pcs_two (p : List UInt8) (h : ∀ c ∈ p, c ≠ 46) (l : List UInt8) : pcs 46 (p ++ 46 :: l) = p :: pcs 46 l := by
  rw [pcs_word p h, pcs_hit]; simp [pend]
theorem pcs_join : ∀ ps : List (List UInt8), ps ≠ [] → (∀ p ∈ ps, ∀ c ∈ p, c ≠ 46) → ∀ l, pcs 46 (joinD ps ++ 46 :: l) = ps ++ pcs 46 l ∧ pcs 46 (joinD ps) = ps
  | [], h, _, _ => absurd rfl h
  | [p], _, h, l => ⟨pcs_two p (h p (by simp)) l, pcs_one p (h p (by simp))⟩
  | p :: q :: r, _, h, l => by
    have ih := pcs_join (q :: r) (by simp) (fun x hx => h x (by simp at hx ⊢; simp [hx])) l
    rw [joinD]
    constructor
    · rw [List.append_assoc, List.cons_append, pcs_two p (h p (by simp)), ih.1]; rfl
    · rw [pcs_two p (h p (by simp)), ih.2]
theorem last_get (ps : List (List UInt8)) (h : ps ≠ []) : lastB (ps.map mkB) = mkB (ps.getLast h) := by
  unfold lastB
  rw [List.getD_eq_getElem?_getD, List.length_map, List.getElem?_map]
  have : ps[ps.length - 1]? = some (ps.getLast h) := by
    rw [List.getLast_eq_getElem]
    exact List.getElem?_eq_getElem _
  rw [this]; rfl
theorem parts_join (ps : List (List UInt8)) (h : ps ≠ []) (h46 : ∀ p ∈ ps, ∀ c ∈ p, c ≠ 46) (hne : ∀ p ∈ ps, p ≠ []) : partsB (mkB (joinD ps)) = ps.map mkB ∧ partsB (mkB (joinD ps ++ [46])) = ps.map mkB := by
  have hj := pcs_join ps h h46 []
  unfold partsB
  rw [data_mkB, data_mkB, hj.1, hj.2]
  constructor
  · unfold finB
    rw [if_neg]
    rintro ⟨_, h2⟩
    rw [last_get ps h, mkB_size] at h2
    exact hne _ (List.getLast_mem h) (List.length_eq_zero_iff.1 h2)
  · unfold finB
    have hl : 0 < ps.length := List.length_pos_iff.2 h
    have hne' : ps ++ pcs 46 [] ≠ [] := by simp [h]
    rw [if_pos]
    · rw [show pcs 46 [] = [[]] from rfl, List.length_map, List.length_append, List.length_singleton, Nat.add_sub_cancel, ← List.map_take, List.take_left']
      rfl
    · refine ⟨by simp [pcs]; omega, ?_⟩
      rw [last_get _ hne', mkB_size]
      simp [pcs]
def sumT (n : Nat) : Nat → List Nat → Nat
  | _, [] => 0
  | i, x :: l => (if i + 1 = n then x else x * 2 ^ (8 * (3 - i))) + sumT n (i + 1) l
def greatT (n : Nat) : Nat → List Nat → Bool
  | _, [] => false
  | i, x :: l => decide ((if i + 1 = n then 2 ^ (8 * (5 - n)) else 256) ≤ x) || greatT n (i + 1) l
theorem numOf_8 (ns : List Nat) : ((ns.map numOf).any fun p => p.2 == 8) = false := by
  rw [List.any_eq_false]
  intro p hp
  obtain ⟨n, _, rfl⟩ := List.mem_map.1 hp
  unfold numOf
  split <;> simp
theorem shl_one (m : Int) (j : Nat) (hm : m = (j : Int)) (hj : j ≤ 32) : shl .u64 1 m = ((2 ^ j : Nat) : Int) := by
  subst hm
  unfold shl
  rw [show min ((j : Int)).toNat IntKind.u64.bits = j by simp only [IntKind.bits]; omega]
  have h : (2 : Nat) ^ j ≤ 2 ^ 32 := Nat.pow_le_pow_right (by decide) hj
  have e : (1 : Int) * 2 ^ j = ((2 ^ j : Nat) : Int) := by rw [Int.one_mul]; exact (Int.natCast_pow 2 j).symm
  rw [e]
  generalize (2 : Nat) ^ j = P at h ⊢
  exact uwrap_small (by omega) (by omega)
theorem shl_x (x : Nat) (hx : x < 4294967296) (m : Int) (j : Nat) (hm : m = (j : Int)) (hj : j ≤ 24) : shl .u64 (x : Int) m = ((x * 2 ^ j : Nat) : Int) := by
  subst hm
  unfold shl
  rw [show min ((j : Int)).toNat IntKind.u64.bits = j by simp only [IntKind.bits]; omega]
  have h : (2 : Nat) ^ j ≤ 2 ^ 24 := Nat.pow_le_pow_right (by decide) hj
  have h2 : x * 2 ^ j ≤ 4294967296 * 2 ^ 24 := Nat.mul_le_mul (by omega) h
  have e : (x : Int) * 2 ^ j = ((x * 2 ^ j : Nat) : Int) := by rw [Int.natCast_mul, Int.natCast_pow]; rfl
  rw [e]
  generalize x * 2 ^ j = P at h2 ⊢
  exact uwrap_small (by omega) (by omega)
theorem room_nat (n i : Nat) (hn : 1 ≤ n) (hn4 : n ≤ 4) : room n i = (((if i + 1 = n then 2 ^ (8 * (5 - n)) else 256) : Nat) : Int) := by
  unfold room
  split
  · exact shl_one _ (8 * (5 - n)) (by omega) (by omega)
  · rfl
theorem room_le (n i : Nat) (hn : 1 ≤ n) : (if i + 1 = n then 2 ^ (8 * (5 - n)) else 256) ≤ 4294967296 := by
  split
  · have : (2 : Nat) ^ (8 * (5 - n)) ≤ 2 ^ 32 := Nat.pow_le_pow_right (by decide) (by omega)
    omega
  · decide
theorem great_eq (n : Nat) (hn : 1 ≤ n) (hn4 : n ≤ 4) : ∀ (ns : List Nat) (i : Nat), (((ns.map numOf).any fun p => p.2 != 0) || longX n i ((ns.map numOf).map (·.1))) = greatT n i ns
  | [], i => rfl
  | x :: l, i => by
    have ih := great_eq n hn hn4 l (i + 1)
    simp only [List.map_cons, List.any_cons, longX, greatT]
    rw [← ih, room_nat n i hn hn4]
    have hr := room_le n i hn
    generalize (if i + 1 = n then 2 ^ (8 * (5 - n)) else 256) = R at hr
    unfold numOf
    by_cases hx : x < 4294967296
    · rw [if_pos hx]
      have e : decide ((R : Int) ≤ (x : Int)) = decide (R ≤ x) := decide_eq_decide.2 (by omega)
      simp only [e, bne_self_eq_false, Bool.false_or]
      exact Bool.or_left_comm _ _ _
    · rw [if_neg hx]
      have e : decide (R ≤ x) = true := decide_eq_true (by omega)
      rw [e]
      simp
theorem step_eq (n : Nat) (hn : 1 ≤ n) (hn4 : n ≤ 4) : ∀ (ns : List Nat) (i : Nat) (s : Nat), i + ns.length = n → (∀ x ∈ ns, x < 4294967296) → s ≤ i * 4294967296 * 2 ^ 24 → stepS n i ((ns.map numOf).map (·.1)) (s : Int) = ((s + sumT n i ns : Nat) : Int)
  | [], i, s, _, _, _ => rfl
  | x :: l, i, s, h, hx, hs => by
    have hx0 := hx x (by simp)
    simp only [List.length_cons] at h
    have e : numOf x = ((x : Int), 0) := by unfold numOf; rw [if_pos hx0]
    simp only [List.map_cons, e, stepS, sumT]
    have hp : place n i (x : Int) = (((if i + 1 = n then x else x * 2 ^ (8 * (3 - i))) : Nat) : Int) := by
      unfold place
      split
      · rfl
      · exact shl_x x hx0 _ _ (by omega) (by omega)
    have hb : (if i + 1 = n then x else x * 2 ^ (8 * (3 - i))) ≤ 4294967296 * 2 ^ 24 := by
      split
      · omega
      · have h : (2 : Nat) ^ (8 * (3 - i)) ≤ 2 ^ 24 := Nat.pow_le_pow_right (by decide) (by omega)
        exact Nat.mul_le_mul (by omega) h
    rw [hp]
    generalize (if i + 1 = n then x else x * 2 ^ (8 * (3 - i))) = y at hb
    have hi : i ≤ 3 := by omega
    rw [← Int.natCast_add, uwrap_small (by omega) (by omega), step_eq n hn hn4 l (i + 1) (s + y) (by omega) (fun z hz => hx z (by simp [hz])) (by omega), Nat.add_assoc]
theorem not_great (n : Nat) (hn : 1 ≤ n) (hn4 : n ≤ 4) (ns : List Nat) (hl : ns.length = n) (h : greatT n 0 ns = false) : (∀ x ∈ ns, x < 4294967296) ∧ sumT n 0 ns < 4294967296 := by
  have key : ∀ (l : List Nat) (i : Nat), greatT n i l = false → ∀ x ∈ l, x < 4294967296 := by
    intro l
    induction l with
    | nil => intro i _ x hx; cases hx
    | cons y l ih =>
      intro i hg x hx
      simp only [greatT, Bool.or_eq_false_iff, decide_eq_false_iff_not] at hg
      have hr := room_le n i hn
      rcases List.mem_cons.1 hx with rfl | hx
      · omega
      · exact ih (i + 1) hg.2 x hx
  refine ⟨key ns 0 h, ?_⟩
  rcases (by omega : n = 1 ∨ n = 2 ∨ n = 3 ∨ n = 4) with rfl | rfl | rfl | rfl
  · match ns, hl with
    | [a], _ => simp [greatT, sumT] at h ⊢; omega
  · match ns, hl with
    | [a, b], _ => simp [greatT, sumT] at h ⊢; omega
  · match ns, hl with
    | [a, b, c], _ => simp [greatT, sumT] at h ⊢; omega
  · match ns, hl with
    | [a, b, c, d], _ => simp [greatT, sumT] at h ⊢; omega
theorem parF_nums (ns : List Nat) (h1 : 1 ≤ ns.length) (h4 : ns.length ≤ 4) : parF (ns.map numOf) = if greatT ns.length 0 ns = true then (0, 4) else ((sumT ns.length 0 ns : Int), 0) := by
  unfold parF
  rw [numOf_8, if_neg Bool.false_ne_true, List.length_map, great_eq _ h1 h4]
  by_cases hg : greatT ns.length 0 ns = true
  · rw [if_pos hg, if_pos hg]
  · rw [if_neg hg, if_neg hg]
    have hg' : greatT ns.length 0 ns = false := by simpa using hg
    obtain ⟨hx, hs⟩ := not_great _ h1 h4 ns rfl hg'
    have := step_eq _ h1 h4 ns 0 0 (by omega) hx (by omega)
    rw [Nat.zero_add] at this
    rw [show (0 : Int) = ((0 : Nat) : Int) from rfl, this]
    congr 1
    omega
end Go.Proofs.YtlnlfglhboccpaaDoor.Pr
