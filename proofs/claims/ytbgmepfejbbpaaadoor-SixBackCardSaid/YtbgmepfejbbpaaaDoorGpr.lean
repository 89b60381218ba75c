import Derived.Test.YtbgmepfejbbpaaaDoorSixd
import Derived.Test.YtbgmepfejbbpaaaDoorKdot
namespace Go.Proofs.YtbgmepfejbbpaaaDoor.Pr
open Go.RowKit Go.Proofs.YtbgmepfejbbpaaaDoorW.PrintWords Go.Proofs.YtbgmepfejbbpaaaDoorW.PrintLast Go.Proofs.YtbgmepfejbbpaaaDoorW.PrintMore
set_option linter.unusedVariables false
set_option linter.unusedSimpArgs false

/-! ### What the program's reader answers, by segments -/
theorem pcs_free (c : UInt8) : ∀ p : List UInt8, c ∉ p → pcs c p = [p]
  | [], _ => rfl
  | b :: l, h => by
    have hb : b ≠ c := fun e => h (by simp [e])
    have ih := pcs_free c l (fun e => h (by simp [e]))
    unfold pcs
    rw [if_neg hb, ih]; rfl
theorem pcs_app (c : UInt8) (r : List UInt8) : ∀ p : List UInt8, c ∉ p → pcs c (p ++ c :: r) = p :: pcs c r
  | [], _ => by
    show pcs c (c :: r) = _
    conv => lhs; unfold pcs
    rw [if_pos rfl]
  | b :: l, h => by
    have hb : b ≠ c := fun e => h (by simp [e])
    have ih := pcs_app c r l (fun e => h (by simp [e]))
    show pcs c (b :: (l ++ c :: r)) = _
    conv => lhs; unfold pcs
    rw [if_neg hb, ih]; rfl
theorem seg_ways (c : UInt8) : ∀ s : List UInt8, c ∉ s ∨ ∃ p r, c ∉ p ∧ s = p ++ c :: r
  | [] => .inl (by simp)
  | b :: l => by
    by_cases hb : b = c
    · exact .inr ⟨[], l, by simp, by rw [hb]; rfl⟩
    · rcases seg_ways c l with h | ⟨p, r, h, e⟩
      · exact .inl (by simp [h, Ne.symm hb])
      · exact .inr ⟨b :: p, r, by simp [h, Ne.symm hb], by rw [e]; rfl⟩
theorem pcs_in (c x : UInt8) (hx : x ≠ c) : ∀ s : List UInt8, x ∈ s → ∃ q ∈ pcs c s, x ∈ q
  | [], h => by simp at h
  | b :: l, h => by
    by_cases hb : b = c
    · have hl : x ∈ l := by
        rcases List.mem_cons.1 h with e | e
        · exact absurd (e.trans hb) hx
        · exact e
      obtain ⟨q, hq, hxq⟩ := pcs_in c x hx l hl
      refine ⟨q, ?_, hxq⟩
      unfold pcs
      rw [if_pos hb]
      exact List.mem_cons_of_mem _ hq
    · have hne := pcs_ne c l
      unfold pcs
      rw [if_neg hb]
      rcases List.mem_cons.1 h with e | e
      · exact ⟨_, List.mem_cons_self, by rw [e]; exact List.mem_cons_self⟩
      · obtain ⟨q, hq, hxq⟩ := pcs_in c x hx l e
        cases hp : pcs c l with
        | nil => exact absurd hp hne
        | cons q' t =>
          rw [hp] at hq
          rcases List.mem_cons.1 hq with e | e
          · exact ⟨_, List.mem_cons_self, by rw [← e]; exact List.mem_cons_of_mem _ hxq⟩
          · exact ⟨q, List.mem_cons_of_mem _ e, hxq⟩
def hexF : List UInt8 → Nat → Option Nat
  | [], v => some v
  | c :: l, v => match hexv c with | none => none | some d => hexF l (v * 16 + d)
def pcF (p : List UInt8) : Option Nat := if p.length < 1 ∨ 4 < p.length then none else hexF p 0
theorem hexv_colon : hexv 58 = none := by decide
theorem hexv_dot : hexv 46 = none := by decide
theorem hexF_no (x : UInt8) (hx : hexv x = none) : ∀ (p : List UInt8) (v : Nat), x ∈ p → hexF p v = none
  | [], _, h => by simp at h
  | c :: l, v, h => by
    unfold hexF
    rcases List.mem_cons.1 h with e | e
    · rw [← e, hx]
    · split
      · rfl
      · exact hexF_no x hx l _ e
theorem pcF_no {x : UInt8} (hx : hexv x = none) {p : List UInt8} (h : x ∈ p) : pcF p = none := by
  unfold pcF
  split
  · rfl
  · exact hexF_no x hx p 0 h
theorem pcF_nil : pcF [] = none := rfl
theorem pcL_rest (r : List UInt8) : ∀ (k : Nat) (p : List UInt8) (v : Nat), (hexF p v = none ∨ k < p.length) → ∃ q, q ≠ [] ∧ (∀ x ∈ q, x ∈ p) ∧ (pcL k (p ++ r) v).2 = q ++ r
  | k, [], v, h => by simp [hexF] at h
  | 0, c :: l, v, h => ⟨c :: l, by simp, fun x h => h, rfl⟩
  | k + 1, c :: l, v, h => by
    show ∃ q, q ≠ [] ∧ (∀ x ∈ q, x ∈ c :: l) ∧ (pcL (k + 1) (c :: (l ++ r)) v).2 = q ++ r
    unfold pcL
    cases hc : hexv c with
    | none => exact ⟨c :: l, by simp, fun x h => h, rfl⟩
    | some d =>
      obtain ⟨q, h1, h2, h3⟩ := pcL_rest r k l (v * 16 + d) (by
        rcases h with h | h
        · unfold hexF at h
          rw [hc] at h
          exact .inl h
        · exact .inr (by simpa using h))
      exact ⟨q, h1, fun x hx => List.mem_cons_of_mem _ (h2 x hx), h3⟩
theorem pcL_all (r : List UInt8) (hr : r = [] ∨ ∃ t, r = 58 :: t) : ∀ (k : Nat) (p : List UInt8) (v a : Nat), hexF p v = some a → p.length ≤ k → pcL k (p ++ r) v = (a, r)
  | 0, [], v, a, h, _ => by cases h; rfl
  | k + 1, [], v, a, h, _ => by
    cases h
    rcases hr with rfl | ⟨t, rfl⟩
    · rfl
    · show pcL (k + 1) (58 :: t) v = _
      unfold pcL
      rw [hexv_colon]
  | 0, c :: l, v, a, h, hl => absurd hl (by simp)
  | k + 1, c :: l, v, a, h, hl => by
    show pcL (k + 1) (c :: (l ++ r)) v = _
    unfold hexF at h
    unfold pcL
    cases hc : hexv c with
    | none => rw [hc] at h; cases h
    | some d =>
      rw [hc] at h
      exact pcL_all r hr k l _ a h (by simpa using hl)
theorem piece_yes {p r : List UInt8} (hr : r = [] ∨ ∃ t, r = 58 :: t) {a : Nat} (h : pcF p = some a) (acc : List Nat) : pieceF (p ++ r) acc = if acc.length = 8 then none else some (r, acc ++ [a]) := by
  unfold pcF at h
  split at h
  · cases h
  · next hl =>
    have e := pcL_all r hr 4 p 0 a h (by omega)
    unfold pieceF
    rw [e]
    simp only [List.length_append]
    by_cases h8 : acc.length = 8
    · rw [if_pos (.inr h8), if_pos h8]
    · rw [if_neg (by omega), if_neg h8]
theorem piece_no {p r : List UInt8} (hr : r = [] ∨ ∃ t, r = 58 :: t) (h : pcF p = none) (hp : 58 ∉ p) (acc : List Nat) : pieceF (p ++ r) acc = none ∨ ∃ c q acc1, c ≠ 58 ∧ pieceF (p ++ r) acc = some (c :: q, acc1) := by
  by_cases hp0 : p = []
  · subst hp0
    left
    have e := pcL_all r hr 4 [] 0 0 rfl (by simp)
    unfold pieceF
    rw [e]
    simp
  · obtain ⟨q, h1, h2, h3⟩ := pcL_rest r 4 p 0 (by
      unfold pcF at h
      split at h
      · next hl =>
        have := List.length_pos_iff.2 hp0
        right; omega
      · exact .inl h)
    unfold pieceF
    split
    · exact .inl rfl
    · cases q with
      | nil => exact absurd rfl h1
      | cons c q =>
        refine .inr ⟨c, q ++ r, acc ++ [(pcL 4 (p ++ r) 0).1], fun e => hp (h2 58 (by simp [e])), ?_⟩
        rw [h3]; rfl
/-! the first of colon and dot -/
theorem dotFirst_nil : dotFirst [] = false := rfl
theorem dotFirst_dot (l : List UInt8) : dotFirst (46 :: l) = true := by
  unfold dotFirst Lib.indexAny
  rw [if_pos (by decide)]; rfl
theorem dotFirst_colon (l : List UInt8) : dotFirst (58 :: l) = false := by
  unfold dotFirst Lib.indexAny
  rw [if_pos (by decide)]; rfl
theorem dotFirst_cons (c : UInt8) (l : List UInt8) (h1 : c ≠ 58) (h2 : c ≠ 46) : dotFirst (c :: l) = dotFirst l := by
  unfold dotFirst
  rw [Lib.indexAny, if_neg (by simp [h1, h2])]
  rcases indexAny_lt [58, 46] l with h | ⟨i, hi, h⟩
  · rw [h]; rfl
  · rw [h, if_neg (by rw [beq_iff_eq]; omega)]
    have e1 : decide (0 ≤ (i : Int) + 1) = true := decide_eq_true (by omega)
    have e2 : decide (0 ≤ (i : Int)) = true := decide_eq_true (by omega)
    have e3 : ((i : Int) + 1).toNat = i + 1 := by omega
    rw [e1, e2, e3, Int.toNat_natCast]
    simp
theorem dotFirst_app {r : List UInt8} (hr : r = [] ∨ ∃ t, r = 58 :: t) : ∀ p : List UInt8, 58 ∉ p → dotFirst (p ++ r) = decide (46 ∈ p)
  | [], _ => by
    rcases hr with rfl | ⟨t, rfl⟩
    · rfl
    · exact dotFirst_colon t
  | c :: l, h => by
    have hc : c ≠ 58 := fun e => h (by simp [e])
    by_cases h4 : c = 46
    · subst h4
      rw [List.cons_append, dotFirst_dot]
      simp
    · rw [List.cons_append, dotFirst_cons c _ hc h4, dotFirst_app hr l (fun e => h (by simp [e]))]
      simp [Ne.symm h4]
/-! dotted -/
theorem decV_no : ∀ (p : List UInt8) (v : Nat), 58 ∈ p → decV p v = none
  | [], _, h => by simp at h
  | c :: l, v, h => by
    unfold decV
    rcases List.mem_cons.1 h with e | e
    · rw [← e]; rfl
    · split
      · exact decV_no l _ e
      · rfl
theorem octF_no {p : List UInt8} (h : 58 ∈ p) : octF p = none := by
  unfold octF
  split
  · rfl
  · rw [decV_no p 0 h]
theorem octs_no : ∀ l : List (List UInt8), (∃ q ∈ l, octF q = none) → octs l = none
  | [], h => by simp at h
  | p :: l, ⟨q, hq, h⟩ => by
    unfold octs
    rcases List.mem_cons.1 hq with e | e
    · rw [← e, h]
    · split
      · rfl
      · rw [octs_no l ⟨q, e, h⟩]
theorem rdotF_no {s : List UInt8} (h : 58 ∈ s) : rdotF s = none := by
  unfold rdotF
  split
  · obtain ⟨q, hq, hx⟩ := pcs_in 46 58 (by decide) s h
    rw [octs_no _ ⟨q, hq, octF_no hx⟩]
  · rfl
theorem rdotF_free {s : List UInt8} (h : 46 ∉ s) : rdotF s = none := by
  unfold rdotF
  rw [pcs_free 46 s h, if_neg (by simp)]
theorem rdotF_two {s : List UInt8} {d : List Nat} (h : rdotF s = some d) : d.length = 2 := by
  unfold rdotF at h
  split at h
  · next h4 =>
    split at h
    · cases h
    · next vs hv =>
      cases h
      match hp : pcs 46 s, h4 with
      | [a, b, c, d], _ =>
        rw [hp] at hv
        simp only [octs] at hv
        revert hv
        cases octF a <;> cases octF b <;> cases octF c <;> cases octF d <;> intro hv <;> first | (cases hv; rfl) | cases hv
  · cases h
theorem dotF_rdot (s : List UInt8) (acc : List Nat) : dotF s acc = if acc.length ≤ 6 then (match rdotF s with | none => none | some d => some (acc ++ d)) else none := by
  unfold dotF rdotF
  by_cases h6 : acc.length ≤ 6
  · rw [if_pos h6]
    by_cases h4 : (pcs 46 s).length = 4
    · rw [if_pos ⟨h4, h6⟩, if_pos h4]
      match hp : pcs 46 s, h4 with
      | [a, b, c, d], _ =>
        simp only [octs, dotK]
        have hn : ∀ k, acc.length ≤ k → acc.getD k 0 = 0 := fun k hk => by rw [List.getD_eq_getElem?_getD, List.getElem?_eq_none hk]; rfl
        cases octF a with
        | none => rfl
        | some va =>
        cases octF b with
        | none => rfl
        | some vb =>
        cases octF c with
        | none => rfl
        | some vc =>
        cases octF d with
        | none => rfl
        | some vd =>
          simp only [two4, upd]
          simp [hn]
          omega
    · rw [if_neg (fun e => h4 e.1), if_neg h4]
  · rw [if_neg h6, if_neg (fun e => h6 e.2)]
/-! pieces, as the document has them -/
def piL : List (List UInt8) → Bool → Option (List Nat)
  | [], _ => some []
  | p :: l, last => if last = true ∧ l = [] then (match rdotF p with | some d => some d | none => (match pcF p with | none => none | some v => some [v])) else (match pcF p with | none => none | some v => (match piL l last with | none => none | some t => some (v :: t)))
def piF (s : List UInt8) (last : Bool) : Option (List Nat) := if s = [] then some [] else piL (pcs 58 s) last
theorem pre2 (r : List UInt8) : Lib.hasPrefix (58 :: r) [58, 58] = true ↔ ∃ t, r = 58 :: t := by
  cases r with
  | nil => simp [Lib.hasPrefix]
  | cons c t =>
    simp [Lib.hasPrefix]
    exact eq_comm
theorem hd58 {r : List UInt8} (h : r.head? = some 58) : ∃ t, r = 58 :: t := by
  cases r with
  | nil => cases h
  | cons c t => exact ⟨t, by simp at h; rw [h]⟩
theorem pre1 (r : List UInt8) : Lib.hasPrefix (58 :: r) [58] = true := by simp [Lib.hasPrefix]
theorem preN (c : UInt8) (q p : List UInt8) (h : c ≠ 58) : Lib.hasPrefix (c :: q) (58 :: p) = false := by
  show ((58 : UInt8) == c && p.isPrefixOf q) = false
  rw [beq_eq_false_iff_ne.2 (Ne.symm h)]; rfl
def fin (acc : List Nat) (gap : Int) (o : Option (List Nat)) : Option (List Nat × Int) := match o with | none => none | some l => if acc.length + l.length ≤ 8 then some (acc ++ l, gap) else none
theorem fin_cons (acc : List Nat) (gap : Int) (a : Nat) (o : Option (List Nat)) (h : acc.length ≠ 8) (h8 : acc.length ≤ 8) : fin acc gap (match o with | none => none | some t => some (a :: t)) = fin (acc ++ [a]) gap o := by
  cases o with
  | none => rfl
  | some t =>
    simp only [fin, List.length_append, List.length_cons, List.length_nil]
    by_cases hc : acc.length + (t.length + 1) ≤ 8
    · rw [if_pos hc, if_pos (by omega)]; simp
    · rw [if_neg hc, if_neg (by omega)]
theorem fin_full (acc : List Nat) (gap : Int) (a : Nat) (o : Option (List Nat)) (h : acc.length = 8) : fin acc gap (match o with | none => none | some t => some (a :: t)) = none := by
  cases o with
  | none => rfl
  | some t =>
    simp only [fin, List.length_cons]
    rw [if_neg (by omega)]
/-- One segment, the last one. -/
theorem loop_last (k : Nat) (p : List UInt8) (acc : List Nat) (gap : Int) (hp : 58 ∉ p) (h8 : acc.length ≤ 8) : loopF (k + 1) p acc gap = fin acc gap (piL [p] true) := by
  have hd := dotFirst_app (.inl rfl) p hp
  have hpy := fun a (h : pcF p = some a) => piece_yes (r := []) (.inl rfl) h acc
  have hpn := fun (h : pcF p = none) => piece_no (r := []) (.inl rfl) h hp acc
  rw [List.append_nil] at hd hpy hpn
  have hpl : piL [p] true = (match rdotF p with | some d => some d | none => (match pcF p with | none => none | some v => some [v])) := by
    unfold piL
    rw [if_pos ⟨rfl, rfl⟩]
  rw [loopF_succ, hd, hpl]
  by_cases h46 : 46 ∈ p
  · rw [if_pos (decide_eq_true h46), dotF_rdot, pcF_no hexv_dot h46]
    cases hr : rdotF p with
    | none => simp [fin]
    | some d =>
      have := rdotF_two hr
      simp only [fin]
      by_cases h6 : acc.length ≤ 6
      · rw [if_pos h6, if_pos (by omega)]
      · rw [if_neg h6, if_neg (by omega)]
  · rw [if_neg (by simpa using h46), rdotF_free h46]
    cases hc : pcF p with
    | none =>
      rcases hpn hc with e | ⟨c, q, acc1, hcn, e⟩
      · rw [e]; rfl
      · rw [e]
        simp only
        rw [if_neg (by simp), preN c q _ hcn, preN c q _ hcn]
        rfl
    | some a =>
      rw [hpy a hc]
      by_cases h : acc.length = 8
      · rw [if_pos h]
        simp only [fin, List.length_cons, List.length_nil]
        rw [if_neg (by omega)]
      · rw [if_neg h]
        simp only [fin, List.length_cons, List.length_nil]
        rw [if_pos trivial, if_pos (by omega)]
/-- One segment with a colon behind it. -/
theorem loop_seg (k : Nat) (p r : List UInt8) (acc : List Nat) (gap : Int) (hp : 58 ∉ p) : loopF (k + 1) (p ++ 58 :: r) acc gap = match pcF p with | none => none | some a => if acc.length = 8 then none else (if r.head? = some 58 then (if 0 ≤ gap then none else if r.drop 1 = [] then some (acc ++ [a], ((acc ++ [a]).length : Int)) else loopF k (r.drop 1) (acc ++ [a]) ((acc ++ [a]).length : Int)) else loopF k r (acc ++ [a]) gap) := by
  have hd := dotFirst_app (r := 58 :: r) (.inr ⟨r, rfl⟩) p hp
  rw [loopF_succ, hd]
  by_cases h46 : 46 ∈ p
  · rw [if_pos (decide_eq_true h46), dotF_rdot, pcF_no hexv_dot h46, rdotF_no (by simp)]
    simp
  · rw [if_neg (by simpa using h46)]
    cases hc : pcF p with
    | none =>
      rcases piece_no (r := 58 :: r) (.inr ⟨r, rfl⟩) hc hp acc with e | ⟨c, q, acc1, hcn, e⟩
      · rw [e]
      · rw [e]
        simp only
        rw [if_neg (by simp), preN c q _ hcn, preN c q _ hcn]
        rfl
    | some a =>
      rw [piece_yes (r := 58 :: r) (.inr ⟨r, rfl⟩) hc acc]
      simp only
      by_cases h : acc.length = 8
      · rw [if_pos h, if_pos h]
      · rw [if_neg h, if_neg h]
        simp only
        rw [if_neg (by simp)]
        by_cases ht : r.head? = some 58
        · rw [if_pos ((pre2 r).2 (hd58 ht)), if_pos ht]
          rfl
        · rw [if_neg (fun e => ht (by obtain ⟨t, rfl⟩ := (pre2 r).1 e; rfl)), if_neg ht, if_pos (pre1 r)]
          rfl
theorem piL_cons (p : List UInt8) (l : List (List UInt8)) (last : Bool) (h : l ≠ []) : piL (p :: l) last = match pcF p with | none => none | some v => (match piL l last with | none => none | some t => some (v :: t)) := by
  conv => lhs; unfold piL
  rw [if_neg (fun e => h e.2)]
theorem piL_empty (r : List UInt8) (last : Bool) : piL (pcs 58 (58 :: r)) last = none := by
  have e : pcs 58 (58 :: r) = [] :: pcs 58 r := pcs_app 58 r [] (by simp)
  rw [e, piL_cons _ _ _ (pcs_ne _ _)]
  rfl
theorem loop_gap : ∀ (k : Nat) (s : List UInt8) (acc : List Nat) (gap : Int), s.length < k → 0 ≤ gap → acc.length ≤ 8 → loopF k s acc gap = fin acc gap (piL (pcs 58 s) true)
  | 0, s, acc, gap, hk, hg, h8 => absurd hk (by omega)
  | k + 1, s, acc, gap, hk, hg, h8 => by
    rcases seg_ways 58 s with hp | ⟨p, r, hp, rfl⟩
    · rw [pcs_free 58 s hp]
      exact loop_last k s acc gap hp h8
    · rw [loop_seg k p r acc gap hp, pcs_app 58 r p hp, piL_cons _ _ _ (pcs_ne _ _)]
      cases hc : pcF p with
      | none => rfl
      | some a =>
        simp only
        by_cases h : acc.length = 8
        · rw [if_pos h, fin_full _ _ _ _ h]
        · rw [if_neg h, fin_cons _ _ _ _ h h8]
          by_cases ht : r.head? = some 58
          · rw [if_pos ht, if_pos hg]
            obtain ⟨t, rfl⟩ := hd58 ht
            rw [piL_empty]; rfl
          · rw [if_neg ht]
            have hl : (p ++ 58 :: r).length = p.length + (r.length + 1) := by simp
            exact loop_gap k r _ gap (by omega) hg (by simp; omega)
/-! the first two colons -/
def dcut : List UInt8 → Option (List UInt8 × List UInt8)
  | [] => none
  | c :: l => if c = 58 ∧ l.head? = some 58 then some ([], l.tail) else (match dcut l with | none => none | some (u, v) => some (c :: u, v))
theorem dcut_free : ∀ p : List UInt8, 58 ∉ p → dcut p = none
  | [], _ => rfl
  | c :: l, h => by
    unfold dcut
    rw [if_neg (fun e => h (by simp [e.1])), dcut_free l (fun e => h (by simp [e]))]
theorem dcut_at (t : List UInt8) : ∀ p : List UInt8, 58 ∉ p → dcut (p ++ 58 :: 58 :: t) = some (p, t)
  | [], _ => by
    show dcut (58 :: 58 :: t) = _
    unfold dcut
    rw [if_pos ⟨rfl, rfl⟩]; rfl
  | c :: l, h => by
    show dcut (c :: (l ++ 58 :: 58 :: t)) = _
    unfold dcut
    rw [if_neg (fun e => h (by simp [e.1])), dcut_at t l (fun e => h (by simp [e]))]
theorem dcut_seg (r : List UInt8) (hr : ¬ r.head? = some 58) : ∀ p : List UInt8, 58 ∉ p → dcut (p ++ 58 :: r) = match dcut r with | none => none | some (u, v) => some (p ++ 58 :: u, v)
  | [], _ => by
    show dcut (58 :: r) = _
    conv => lhs; unfold dcut
    rw [if_neg (fun e => hr e.2)]
    rfl
  | c :: l, h => by
    show dcut (c :: (l ++ 58 :: r)) = _
    conv => lhs; unfold dcut
    rw [if_neg (fun e => h (by simp [e.1])), dcut_seg r hr l (fun e => h (by simp [e]))]
    cases dcut r with
    | none => rfl
    | some uv => rfl
def fin2 (acc : List Nat) (o1 o2 : Option (List Nat)) : Option (List Nat × Int) := match o1 with | none => none | some x => (match o2 with | none => none | some y => if acc.length + (x.length + y.length) ≤ 8 then some (acc ++ (x ++ y), ((acc.length + x.length : Nat) : Int)) else none)
theorem fin2_cons (acc : List Nat) (a : Nat) (o1 o2 : Option (List Nat)) : fin2 acc (match o1 with | none => none | some t => some (a :: t)) o2 = fin2 (acc ++ [a]) o1 o2 := by
  cases o1 with
  | none => rfl
  | some x =>
    cases o2 with
    | none => rfl
    | some y =>
      simp only [fin2, List.length_append, List.length_cons, List.length_nil]
      by_cases hc : acc.length + (x.length + 1 + y.length) ≤ 8
      · rw [if_pos hc, if_pos (by omega)]
        simp; omega
      · rw [if_neg hc, if_neg (by omega)]
theorem fin2_full (acc : List Nat) (a : Nat) (o1 o2 : Option (List Nat)) (h : acc.length = 8) : fin2 acc (match o1 with | none => none | some t => some (a :: t)) o2 = none := by
  cases o1 with
  | none => rfl
  | some x =>
    cases o2 with
    | none => rfl
    | some y =>
      simp only [fin2, List.length_cons]
      rw [if_neg (by omega)]
def uncut (acc : List Nat) (s : List UInt8) : Option (List Nat × Int) := match dcut s with | none => fin acc (-1) (piL (pcs 58 s) true) | some (u, v) => fin2 acc (piL (pcs 58 u) false) (piF v true)
theorem loop_no : ∀ (k : Nat) (s : List UInt8) (acc : List Nat), s.length < k → acc.length ≤ 8 → loopF k s acc (-1) = uncut acc s
  | 0, s, acc, hk, h8 => absurd hk (by omega)
  | k + 1, s, acc, hk, h8 => by
    unfold uncut
    rcases seg_ways 58 s with hp | ⟨p, r, hp, rfl⟩
    · rw [pcs_free 58 s hp, dcut_free s hp]
      exact loop_last k s acc _ hp h8
    · have hl : (p ++ 58 :: r).length = p.length + (r.length + 1) := by simp
      rw [loop_seg k p r acc _ hp]
      by_cases ht : r.head? = some 58
      · obtain ⟨t, rfl⟩ := hd58 ht
        rw [dcut_at t p hp]
        simp only
        rw [pcs_free 58 p hp]
        unfold piL
        rw [if_neg (by simp)]
        cases hc : pcF p with
        | none => rfl
        | some a =>
          simp only [piL]
          by_cases h : acc.length = 8
          · rw [if_pos h]
            exact (fin2_full acc a (some []) _ h).symm
          · rw [if_neg h, if_pos (show (58 :: t).head? = some 58 from rfl), if_neg (by decide)]
            simp only [List.drop_succ_cons, List.drop_zero]
            unfold piF
            by_cases ht : t = []
            · rw [if_pos ht, if_pos ht]
              simp [fin2]
              omega
            · rw [if_neg ht, if_neg ht, loop_gap k t _ _ (by have : (58 :: t).length = t.length + 1 := rfl; omega) (by omega) (by simp; omega)]
              cases piL (pcs 58 t) true with
              | none => rfl
              | some l => simp [fin, fin2, Nat.add_assoc]
      · rw [dcut_seg r ht p hp]
        have ih := fun a => loop_no k r (acc ++ [a]) (by omega)
        unfold uncut at ih
        cases hd : dcut r with
        | none =>
          simp only [hd] at ih ⊢
          rw [pcs_app 58 r p hp, piL_cons _ _ _ (pcs_ne _ _)]
          cases hc : pcF p with
          | none => rfl
          | some a =>
            simp only
            by_cases h : acc.length = 8
            · rw [if_pos h, fin_full _ _ _ _ h]
            · rw [if_neg h, fin_cons _ _ _ _ h h8, if_neg ht]
              exact ih a (by simp; omega)
        | some uv =>
          obtain ⟨u, v⟩ := uv
          simp only [hd] at ih ⊢
          rw [pcs_app 58 u p hp, piL_cons _ _ _ (pcs_ne _ _)]
          cases hc : pcF p with
          | none => rfl
          | some a =>
            simp only
            by_cases h : acc.length = 8
            · rw [if_pos h, fin2_full _ _ _ _ h]
            · rw [if_neg h, fin2_cons, if_neg ht]
              exact ih a (by simp; omega)
/-- An address, as the document reads it. -/
def refA (s : List UInt8) : Option (List Nat) := match dcut s with
  | none => (match piF s true with | none => none | some l => if l.length = 8 then some l else none)
  | some (u, v) => (match piF u false with | none => none | some x => (match piF v true with | none => none | some y => if 7 < x.length + y.length then none else some (x ++ List.replicate (8 - (x.length + y.length)) 0 ++ y)))
theorem sixA_ref (s : List UInt8) : sixA s = refA s := by
  unfold sixA allF refA
  by_cases h2 : ∃ t, s = 58 :: 58 :: t
  · obtain ⟨t, rfl⟩ := h2
    rw [if_pos ((pre2 _).2 ⟨t, rfl⟩), show dcut (58 :: 58 :: t) = some ([], t) from dcut_at t [] (by simp)]
    simp only [List.drop_succ_cons, List.drop_zero]
    unfold piF
    rw [if_pos rfl]
    by_cases ht : t = []
    · subst ht; rfl
    · rw [if_neg ht, if_neg ht, loop_gap _ t [] 0 (by simp; omega) (by decide) (by simp)]
      cases piL (pcs 58 t) true with
      | none => rfl
      | some l =>
        simp only [fin]
        by_cases h8 : ([] : List Nat).length + l.length ≤ 8
        · rw [if_pos h8]
          simp at h8
          simp
        · rw [if_neg h8]
          simp at h8
          simp; omega
  · rw [if_neg (fun e => h2 (by
      cases s with
      | nil => simp [Lib.hasPrefix] at e
      | cons c l =>
        by_cases hc : c = 58
        · subst hc
          obtain ⟨t, rfl⟩ := (pre2 l).1 e
          exact ⟨t, rfl⟩
        · rw [preN c l _ hc] at e; cases e)), loop_no _ s [] (by omega) (by simp)]
    unfold uncut
    cases hd : dcut s with
    | none =>
      simp only
      unfold piF
      by_cases hs : s = []
      · subst hs; rfl
      · rw [if_neg hs]
        cases piL (pcs 58 s) true with
        | none => rfl
        | some l =>
          simp only [fin]
          by_cases h8 : ([] : List Nat).length + l.length ≤ 8
          · rw [if_pos h8]
            simp
          · rw [if_neg h8]
            simp at h8
            simp; omega
    | some uv =>
      obtain ⟨u, v⟩ := uv
      have hu : u ≠ [] := by
        rintro rfl
        refine h2 ?_
        cases s with
        | nil => cases hd
        | cons c l =>
          unfold dcut at hd
          split at hd
          · next hc =>
            cases l with
            | nil => simp at hc
            | cons d t => exact ⟨t, by have := hc.2; simp at this; rw [hc.1, this]⟩
          · split at hd
            · cases hd
            · simp at hd
      simp only
      rw [show piF u false = piL (pcs 58 u) false by unfold piF; rw [if_neg hu]]
      cases piL (pcs 58 u) false with
      | none => rfl
      | some x =>
        cases piF v true with
        | none => rfl
        | some y =>
          simp only [fin2]
          by_cases h8 : ([] : List Nat).length + (x.length + y.length) ≤ 8
          · rw [if_pos h8]
            simp at h8
            simp only [List.nil_append, List.length_append, List.length_nil, Nat.zero_add]
            rw [if_neg (by omega)]
            by_cases h7 : 7 < x.length + y.length
            · rw [if_pos h7, if_pos h7]
            · rw [if_neg h7, if_neg h7]
              simp
          · rw [if_neg h8]
            simp at h8
            rw [if_pos (by omega)]
end Go.Proofs.YtbgmepfejbbpaaaDoor.Pr
