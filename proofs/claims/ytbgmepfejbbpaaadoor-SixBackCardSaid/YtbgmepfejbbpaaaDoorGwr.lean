import Derived.Test.YtbgmepfejbbpaaaDoorGtx
namespace Go.Proofs.YtbgmepfejbbpaaaDoor.Pr
open Go.RowKit Go.Proofs.YtbgmepfejbbpaaaDoorW.PrintWords Go.Proofs.YtbgmepfejbbpaaaDoorW.PrintLast Go.Proofs.YtbgmepfejbbpaaaDoorW.PrintMore
set_option linter.unusedVariables false
set_option linter.unusedSimpArgs false

/-! ### What is read of written pieces -/
def joinP : List (List UInt8) → List UInt8
  | [] => []
  | [p] => p
  | p :: q :: l => p ++ 58 :: joinP (q :: l)
theorem joinB_P : ∀ L : List Nat, joinB L = joinP (L.map (digs 16))
  | [] => rfl
  | [x] => joinB_one x
  | x :: y :: r => by
    rw [joinB_cons, joinB_P (y :: r)]; rfl
theorem joinP_snoc (q : List UInt8) : ∀ ps : List (List UInt8), joinP (ps ++ [q]) = if ps = [] then q else joinP ps ++ 58 :: q
  | [] => by rw [if_pos rfl]; rfl
  | [a] => by rw [if_neg (by simp)]; rfl
  | a :: b :: r => by
    have ih := joinP_snoc q (b :: r)
    rw [if_neg (by simp)] at ih ⊢
    show a ++ 58 :: joinP (b :: r ++ [q]) = (a ++ 58 :: joinP (b :: r)) ++ 58 :: q
    rw [ih]; simp
/-- Pieces that can be joined. -/
def Okp (ps : List (List UInt8)) : Prop := ∀ p ∈ ps, p ≠ [] ∧ 58 ∉ p
theorem Okp.tail {p : List UInt8} {ps : List (List UInt8)} (h : Okp (p :: ps)) : Okp ps := fun q hq => h q (List.mem_cons_of_mem _ hq)
theorem pcs_joinP : ∀ ps : List (List UInt8), ps ≠ [] → Okp ps → pcs 58 (joinP ps) = ps
  | [], h, _ => absurd rfl h
  | [p], _, h => pcs_free 58 p (h p (by simp)).2
  | p :: q :: l, _, h => by
    show pcs 58 (p ++ 58 :: joinP (q :: l)) = _
    rw [pcs_app 58 _ p (h p (by simp)).2, pcs_joinP (q :: l) (by simp) h.tail]
theorem joinP_ne : ∀ ps : List (List UInt8), Okp ps → joinP ps = [] → ps = []
  | [], _, _ => rfl
  | [p], h, e => absurd e (h p (by simp)).1
  | p :: q :: l, h, e => by
    have e2 : p ++ 58 :: joinP (q :: l) = [] := e
    simp at e2
theorem joinP_head : ∀ ps : List (List UInt8), Okp ps → ¬ (joinP ps).head? = some 58
  | [], _ => by simp [joinP]
  | [p], h => by
    have h2 := h p (by simp)
    show ¬ p.head? = some 58
    cases p with
    | nil => exact absurd rfl h2.1
    | cons c l => intro e; simp at e; exact h2.2 (by simp [e])
  | p :: q :: l, h => by
    have h2 := h p (by simp)
    show ¬ (p ++ 58 :: joinP (q :: l)).head? = some 58
    cases p with
    | nil => exact absurd rfl h2.1
    | cons c l => intro e; simp at e; exact h2.2 (by simp [e])
theorem joinP_head2 (v : List UInt8) : ∀ ps : List (List UInt8), ps ≠ [] → Okp ps → ¬ (joinP ps ++ v).head? = some 58
  | [], h0, _ => absurd rfl h0
  | p :: l, _, h => by
    have h2 := joinP_head (p :: l) h
    have h3 := joinP_ne (p :: l) h
    generalize joinP (p :: l) = t at h2 h3
    cases t with
    | nil => exact absurd (h3 rfl) (by simp)
    | cons c t => exact h2
theorem dcut_joinP : ∀ ps : List (List UInt8), Okp ps → dcut (joinP ps) = none
  | [], _ => rfl
  | [p], h => dcut_free p (h p (by simp)).2
  | p :: q :: l, h => by
    show dcut (p ++ 58 :: joinP (q :: l)) = none
    rw [dcut_seg _ (joinP_head (q :: l) h.tail) p (h p (by simp)).2, dcut_joinP (q :: l) h.tail]
theorem dcut_gap (v : List UInt8) : ∀ ps : List (List UInt8), Okp ps → dcut (joinP ps ++ 58 :: 58 :: v) = some (joinP ps, v)
  | [], _ => dcut_at v [] (by simp)
  | [p], h => dcut_at v p (h p (by simp)).2
  | p :: q :: l, h => by
    have e : joinP (p :: q :: l) ++ 58 :: 58 :: v = p ++ 58 :: (joinP (q :: l) ++ 58 :: 58 :: v) := by simp [joinP]
    rw [e, dcut_seg _ (joinP_head2 _ (q :: l) (by simp) h.tail) p (h p (by simp)).2, dcut_gap v (q :: l) h.tail]
    rfl
/-- A writer of pieces that is read back. -/
structure Wrt (W : Nat → List UInt8) (x : Nat) : Prop where
  pc : pcF (W x) = some x
  co : 58 ∉ W x
  dt : 46 ∉ W x
theorem Wrt.ne {W : Nat → List UInt8} {x : Nat} (h : Wrt W x) : W x ≠ [] := by
  intro e
  have := h.pc
  rw [e] at this
  cases this
theorem okp_map {W : Nat → List UInt8} {xs : List Nat} (h : ∀ x ∈ xs, Wrt W x) : Okp (xs.map W) := by
  intro p hp
  obtain ⟨x, hx, rfl⟩ := List.mem_map.1 hp
  exact ⟨(h x hx).ne, (h x hx).co⟩
theorem piL_map {W : Nat → List UInt8} (last : Bool) : ∀ xs : List Nat, (∀ x ∈ xs, Wrt W x) → piL (xs.map W) last = some xs
  | [], _ => rfl
  | x :: l, h => by
    have h1 := h x (by simp)
    have ih := piL_map last l (fun y hy => h y (by simp [hy]))
    rw [List.map_cons]
    unfold piL
    split
    · next e =>
      have hl : l = [] := by simpa using e.2
      subst hl
      rw [rdotF_free h1.dt, h1.pc]
    · rw [h1.pc, ih]
theorem piL_dot {W : Nat → List UInt8} (d : List UInt8) (ds : List Nat) (hd : rdotF d = some ds) : ∀ xs : List Nat, (∀ x ∈ xs, Wrt W x) → piL (xs.map W ++ [d]) true = some (xs ++ ds)
  | [], _ => by
    show piL [d] true = _
    unfold piL
    rw [if_pos ⟨rfl, rfl⟩, hd]; rfl
  | x :: l, h => by
    have h1 := h x (by simp)
    have ih := piL_dot d ds hd l (fun y hy => h y (by simp [hy]))
    rw [List.map_cons, List.cons_append, piL_cons _ _ _ (by simp), h1.pc, ih]; rfl
theorem piF_join (ps : List (List UInt8)) (last : Bool) (ys : List Nat) (h : Okp ps) (hp : piL ps last = some ys) : piF (joinP ps) last = some ys := by
  unfold piF
  by_cases h0 : ps = []
  · subst h0
    rw [if_pos (by rfl)]
    exact hp
  · rw [if_neg (fun e => h0 (joinP_ne ps h e)), pcs_joinP ps h0 h, hp]
theorem refA_join (ps : List (List UInt8)) (ys : List Nat) (h : Okp ps) (hp : piL ps true = some ys) : refA (joinP ps) = if ys.length = 8 then some ys else none := by
  unfold refA
  rw [dcut_joinP ps h]
  simp only
  rw [piF_join ps true ys h hp]
theorem refA_gap (ps qs : List (List UInt8)) (xs ys : List Nat) (h : Okp ps) (hq : Okp qs) (hp : piL ps false = some xs) (hy : piL qs true = some ys) : refA (joinP ps ++ 58 :: 58 :: joinP qs) = if 7 < xs.length + ys.length then none else some (xs ++ List.replicate (8 - (xs.length + ys.length)) 0 ++ ys) := by
  unfold refA
  rw [dcut_gap _ ps h]
  simp only
  rw [piF_join ps false xs h hp, piF_join qs true ys hq hy]
/-! digits by 16 -/
theorem hexF_snoc (c : UInt8) : ∀ (l : List UInt8) (v : Nat), hexF (l ++ [c]) v = match hexF l v with | none => none | some a => (match hexv c with | none => none | some d => some (a * 16 + d))
  | [], v => rfl
  | b :: l, v => by
    show hexF (b :: (l ++ [c])) v = _
    unfold hexF
    cases hexv b with
    | none => rfl
    | some d => exact hexF_snoc c l _
theorem hexc_all : ((List.range 16).all fun d => decide (hexv (hexc d) = some d ∧ hexc d ≠ 58 ∧ hexc d ≠ 46)) = true := by decide +kernel
theorem hexc_v (d : Nat) (h : d < 16) : hexv (hexc d) = some d ∧ hexc d ≠ 58 ∧ hexc d ≠ 46 := of_decide_eq_true (List.all_eq_true.1 hexc_all d (List.mem_range.2 h))
theorem hexF_digs (n : Nat) : hexF (digs 16 n) 0 = some n := by
  induction n using Nat.strongRecOn with
  | _ n ih =>
    by_cases h : n < 16
    · rw [digs_small h]
      show (match hexv (hexc n) with | none => none | some d => hexF [] (0 * 16 + d)) = _
      rw [(hexc_v n h).1]
      simp [hexF]
    · rw [digs_step (by decide) (by omega), hexF_snoc, ih (n / 16) (by omega), (hexc_v (n % 16) (by omega)).1]
      simp only [Option.some.injEq]
      omega
theorem digs_mem16 (n : Nat) : ∀ c ∈ digs 16 n, ∃ d, d < 16 ∧ c = hexc d := by
  induction n using Nat.strongRecOn with
  | _ n ih =>
    intro c hc
    by_cases h : n < 16
    · rw [digs_small h] at hc
      exact ⟨n, h, by simpa using hc⟩
    · rw [digs_step (by decide) (by omega)] at hc
      rcases List.mem_append.1 hc with hc | hc
      · exact ih (n / 16) (by omega) c hc
      · exact ⟨n % 16, by omega, by simpa using hc⟩
theorem digs_le16 : ∀ (k n : Nat), 1 ≤ k → n < 16 ^ k → (digs 16 n).length ≤ k
  | 0, n, h, _ => absurd h (by decide)
  | k + 1, n, _, h => by
    by_cases hn : n < 16
    · rw [digs_small hn]; simp
    · have hk : 1 ≤ k := by
        rcases Nat.eq_zero_or_pos k with rfl | h0
        · simp at h; omega
        · exact h0
      rw [digs_step (by decide) (by omega)]
      have := digs_le16 k (n / 16) hk (by rw [Nat.pow_succ] at h; omega)
      simp; omega
theorem digs_wrt (n : Nat) (h : n < 65536) : Wrt (digs 16) n := by
  have hl := digs_le16 4 n (by decide) h
  have hn := List.length_pos_iff.2 (digs_ne 16 n)
  refine ⟨by unfold pcF; rw [if_neg (by omega)]; exact hexF_digs n, fun e => ?_, fun e => ?_⟩
  · obtain ⟨d, hd, e2⟩ := digs_mem16 n _ e
    exact (hexc_v d hd).2.1 e2.symm
  · obtain ⟨d, hd, e2⟩ := digs_mem16 n _ e
    exact (hexc_v d hd).2.2 e2.symm
/-- The text of an address is read as it. -/
theorem text_back (L : List Nat) (hL : L.length = 8) (h16 : ∀ n ∈ L, n < 65536) : sixA (textF L) = some L := by
  rw [sixA_ref]
  unfold textF textOf
  have hb := (best_all L).1
  generalize bestF L 0 (-1) 1 = b at hb
  obtain ⟨a, m⟩ := b
  have hw : ∀ x ∈ L, Wrt (digs 16) x := fun x hx => digs_wrt x (h16 x hx)
  rcases hb with ⟨h1, h2⟩ | ⟨h1, h2, h3, h4⟩
  · simp only at h1 ⊢
    rw [if_pos (by omega), joinB_P, refA_join _ L (okp_map hw) (piL_map true L hw), if_pos hL]
  · simp only at h1 h2 h3 h4 ⊢
    obtain ⟨k, rfl⟩ := Int.eq_ofNat_of_zero_le h1
    rw [Int.toNat_natCast] at h3 h4 ⊢
    rw [if_neg (by omega), joinB_P, joinB_P]
    have w1 : ∀ x ∈ L.take k, Wrt (digs 16) x := fun x hx => hw x (List.mem_of_mem_take hx)
    have w2 : ∀ x ∈ L.drop (k + m), Wrt (digs 16) x := fun x hx => hw x (List.mem_of_mem_drop hx)
    have e := refA_gap _ _ _ _ (okp_map w1) (okp_map w2) (piL_map false _ w1) (piL_map true _ w2)
    have l1 : (L.take k).length = k := by rw [List.length_take]; omega
    have l2 : (L.drop (k + m)).length = 8 - (k + m) := by rw [List.length_drop]; omega
    rw [l1, l2, if_neg (by omega)] at e
    have e2 : joinP ((L.take k).map (digs 16)) ++ [58, 58] ++ joinP ((L.drop (k + m)).map (digs 16)) = joinP ((L.take k).map (digs 16)) ++ 58 :: 58 :: joinP ((L.drop (k + m)).map (digs 16)) := by simp
    rw [e2, e]
    congr 1
    have hz := runZ_take (L.drop k)
    rw [← h3] at hz
    rw [show 8 - (k + (8 - (k + m))) = m by omega, ← hz, ← List.drop_drop]
    rw [List.append_assoc, List.take_append_drop, List.take_append_drop]
end Go.Proofs.YtbgmepfejbbpaaaDoor.Pr
