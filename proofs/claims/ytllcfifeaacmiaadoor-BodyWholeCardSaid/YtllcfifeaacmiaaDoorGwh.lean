import Derived.Test.YtllcfifeaacmiaaDoorGm3
import Derived.Test.YtllcfifeaacmiaaDoorKfi
namespace Go.Proofs.YtllcfifeaacmiaaDoor.Pr
open Go.RowKit Go.Proofs.YtllcfifeaacmiaaDoorW.PrintWords Go.Proofs.YtllcfifeaacmiaaDoorW.PrintLast Go.Proofs.YtllcfifeaacmiaaDoorW.PrintMore
set_option linter.unusedVariables false
set_option linter.unusedSimpArgs false

/-! ### Chunks that are written are read -/
def chkL (s : List UInt8) : List UInt8 := if s = [] then [] else digs 16 s.length ++ [13, 10] ++ s ++ [13, 10]
theorem hexD_hexc : ∀ d : Nat, d < 16 → hexD (hexc d) = some d := by
  intro d hd
  have h : ((List.range 16).all fun d => decide (hexD (hexc d) = some d)) = true := by decide +kernel
  exact of_decide_eq_true (List.all_eq_true.1 h d (List.mem_range.2 hd))
theorem dgs_digs : ∀ (n : Nat), n < 16 ^ 4 → ∃ i, dgs 0 0 (digs 16 n) i n ∧ 0 < i ∧ i ≤ 4 ∧ (∀ k, n < 16 ^ k → 0 < k → i ≤ k) := by
  intro n
  induction n using Nat.strongRecOn with
  | _ n ih =>
    intro hn
    by_cases h : n < 16
    · rw [digs_small h]
      exact ⟨1, ⟨n, hexD_hexc n h, by decide, rfl, by omega⟩, by decide, by decide, fun k _ hk => hk⟩
    · rw [digs_step (by decide) (by omega : 16 ≤ n)]
      obtain ⟨i, h1, h2, h3, h4⟩ := ih (n / 16) (by omega) (by omega)
      have h5 : i ≤ 3 := h4 3 (by omega) (by decide)
      have := dgs_snoc (digs 16 (n / 16)) 0 0 i (n / 16) (hexc (n % 16)) (n % 16) h1 (hexD_hexc _ (Nat.mod_lt _ (by decide))) (by omega)
      rw [show n / 16 * 16 + n % 16 = n by omega] at this
      refine ⟨i + 1, this, by omega, by omega, fun k hk hk0 => ?_⟩
      obtain ⟨j, rfl⟩ : ∃ j, k = j + 1 := ⟨k - 1, by omega⟩
      rw [Nat.pow_succ] at hk
      have : j ≠ 0 := fun e => by subst e; omega
      have := h4 j (by omega) (by omega)
      omega
theorem szM_dgs : ∀ (d : List UInt8) (i n j m l : Nat) (s : List UInt8), dgs i n d j m → l + d.length ≤ 4000 → szM (.dg i n) l (d ++ s) = szM (.dg j m) (l + d.length) s
  | [], i, n, j, m, l, s, h, hl => by obtain ⟨rfl, rfl⟩ := h; rfl
  | c :: r, i, n, j, m, l, s, h, hl => by
    obtain ⟨v, hv, hi, h⟩ := h
    have hlr : l + r.length + 1 ≤ 4000 := by simp at hl; omega
    rw [List.cons_append]
    conv => lhs; unfold szM
    rw [if_neg (by omega), st_dg_some hv, if_neg (show ¬ 8 ≤ i by omega)]
    simp only
    rw [szM_dgs r _ _ j m (l + 1) s h (by omega), List.length_cons, show l + 1 + r.length = l + (r.length + 1) by omega]
theorem szM_crlf (i n l : Nat) (s : List UInt8) (hi : 0 < i) (hl : l ≤ 4000) : szM (.dg i n) l (13 :: 10 :: s) = (l + 2, n, l + 2, 0) := by
  unfold szM
  rw [if_neg (by omega), st_dg_none hexD_13, if_neg (by omega), if_neg (by decide), if_pos rfl]
  simp only
  unfold szM
  rw [if_neg (by omega)]
  rfl
/-- A fresh reader takes a line with a size. -/
theorem line_take (R : Rm) (sum t : Nat) (hR : Fr R sum t) (n l : Nat) (d s : List UInt8) (i : Nat) (hd : dgs 0 0 d i n) (hi : 0 < i) (hl : d.length = l) (hl4 : l ≤ 3000) (hs : s.length ≤ 90000) (hn : sum + n ≤ 16777216) :
    ∃ R1, Same R R1 ∧ R1.sum = R.sum ∧ feedL R (d ++ 13 :: 10 :: s) = ((feedL (szd R1 n) s).1, (feedL (szd R1 n) s).2 + (l + 2)) := by
  have hrel : RelPh R (.dg 0 0) 0 := ⟨hR.line, hR.fault, hR.st, hR.digits, hR.left⟩
  have hsz : szM (.dg 0 0) 0 (d ++ 13 :: 10 :: s) = (l + 2, n, l + 2, 0) := by
    rw [szM_dgs d 0 0 i n 0 _ hd (by omega), Nat.zero_add, hl, szM_crlf i n l s hi (by omega)]
  have h := line_feed (d ++ 13 :: 10 :: s) R (.dg 0 0) 0 hrel ⟨by decide, by decide⟩ (by simp; omega)
  rw [hsz] at h
  rcases h with ⟨q1, _⟩ | ⟨_, q2, _⟩ | ⟨q1, q2, q3, q4, R1, q5, q6, q7⟩
  · exact absurd rfl q1
  · exact absurd (show l + 2 = 0 from q2) (by omega)
  · refine ⟨R1, q5, q6, ?_⟩
    have hdr : (d ++ 13 :: 10 :: s).drop (l + 2) = s := by
      rw [← hl, List.drop_append]
      simp
    simp only [Nat.sub_zero] at q7
    rw [hdr] at q7
    exact q7
theorem endsF_crlf (s : List UInt8) : endsF (13 :: 10 :: s) = none := rfl
theorem chk_feed (x s : List UInt8) (R : Rm) (sum t : Nat) (hR : Fr R sum t) (hx : x.length ≤ 4096) (hs : s.length ≤ 80000) (hsum : sum + x.length ≤ 16777216) (ht : t ≤ 100000) :
    ∃ R', Fr R' (sum + x.length) (t + x.length) ∧ R'.data = R.data ++ x ∧ feedL R (chkL x ++ s) = ((feedL R' s).1, (feedL R' s).2 + (chkL x).length) := by
  unfold chkL
  by_cases h0 : x = []
  · subst h0
    exact ⟨R, hR, by simp, by simp⟩
  · rw [if_neg h0]
    have hxl : 0 < x.length := List.length_pos_iff.2 h0
    obtain ⟨i, h1, h2, h3, h4⟩ := dgs_digs x.length (by omega)
    have hdl := digs_length 16 (by decide) 13 x.length (by omega)
    have e1 : digs 16 x.length ++ [13, 10] ++ x ++ [13, 10] ++ s = digs 16 x.length ++ 13 :: 10 :: (x ++ 13 :: 10 :: s) := by simp
    obtain ⟨R1, q5, q6, q7⟩ := line_take R sum t hR x.length _ (digs 16 x.length) (x ++ 13 :: 10 :: s) i h1 h2 rfl (by omega) (by simp; omega) hsum
    have hw : wrap64 (R1.sum + (x.length : Int)) = ((sum + x.length : Nat) : Int) := by
      rw [q6, hR.sum, show (sum : Int) + (x.length : Int) = ((sum + x.length : Nat) : Int) by omega]
      exact w64c _ (by omega)
    have hb : ¬ 16777216 < wrap64 (R1.sum + (x.length : Int)) := by rw [hw]; omega
    have hfl : (szd R1 x.length).fault = 0 := by unfold szd; exact if_neg hb
    have hck := szd_ck R1 x.length t (by omega) hb (q5.total.trans hR.total)
    have hcf := chunk_feed (szd R1 x.length) false hfl (x ++ 13 :: 10 :: s) R1.data x.length t hxl (by omega) (by simp; omega)
    rw [← hck, if_neg (by simp), List.take_left, List.drop_left] at hcf
    obtain ⟨Rk, hRk⟩ : ∃ Rk, ck (szd R1 x.length) (R1.data ++ x) 0 (t + x.length) (eOf false) = Rk := ⟨_, rfl⟩
    rw [hRk] at hcf
    have hRs : Rk.st = .m13 := by rw [← hRk]; rfl
    have hRf : Rk.fault = 0 := by rw [← hRk]; exact hfl
    rcases m13_feed Rk hRs hRf (13 :: 10 :: s) with ⟨u2, e2, m1, _⟩ | ⟨m1, m2, m3⟩
    · rw [endsF_crlf] at m1; cases m1
    · rw [show (13 :: 10 :: s).drop 2 = s from rfl] at m3
      refine ⟨stR Rk .digit 0, ⟨rfl, by rw [← hRk]; rfl, by rw [← hRk]; rfl, by rw [← hRk]; rfl, by rw [← hRk]; exact q5.fields.trans hR.fields, by rw [← hRk]; exact q5.text.trans hR.text, rfl, by rw [← hRk]; exact hw, by rw [← hRk]; rfl⟩, by rw [← hRk]; show R1.data ++ x = _; rw [q5.data], ?_⟩
      rw [e1, q7, hcf, m3]
      simp only [Prod.mk.injEq, true_and, List.length_append, List.length_cons, List.length_nil]
      omega
/-- The texts as chunks, one behind the other, and together. -/
def encL (l : List (List UInt8)) : List UInt8 := (l.map chkL).flatten
theorem enc_feed : ∀ (l : List (List UInt8)) (s : List UInt8) (R : Rm) (sum t : Nat), Fr R sum t → (∀ x ∈ l, x.length ≤ 4096) → (encL l ++ s).length ≤ 80000 → sum + l.flatten.length ≤ 16777216 → t + l.flatten.length ≤ 100000 →
    ∃ R', Fr R' (sum + l.flatten.length) (t + l.flatten.length) ∧ R'.data = R.data ++ l.flatten ∧ feedL R (encL l ++ s) = ((feedL R' s).1, (feedL R' s).2 + (encL l).length)
  | [], s, R, sum, t, hR, hx, hs, hsum, ht => ⟨R, hR, by simp, by simp [encL]⟩
  | x :: l, s, R, sum, t, hR, hx, hs, hsum, ht => by
    have e0 : encL (x :: l) = chkL x ++ encL l := rfl
    have e1 : (x :: l).flatten = x ++ l.flatten := rfl
    rw [e1, List.length_append] at hsum ht
    rw [e0, List.append_assoc, List.length_append] at hs
    obtain ⟨R1, a1, a2, a3⟩ := chk_feed x (encL l ++ s) R sum t hR (hx x List.mem_cons_self) (by omega) (by omega) (by omega)
    obtain ⟨R2, b1, b2, b3⟩ := enc_feed l s R1 (sum + x.length) (t + x.length) a1 (fun y hy => hx y (List.mem_cons_of_mem _ hy)) (by omega) (by omega) (by omega)
    refine ⟨R2, ?_, ?_, ?_⟩
    · rw [e1, List.length_append, ← Nat.add_assoc, ← Nat.add_assoc]; exact b1
    · rw [b2, a2, e1, List.append_assoc]
    · rw [e0, List.append_assoc, a3, b3]
      simp only [Prod.mk.injEq, true_and, List.length_append]
      omega
def lastL : List UInt8 := [48, 13, 10, 13, 10]
theorem last_feed (s : List UInt8) (R : Rm) (sum t : Nat) (hR : Fr R sum t) (hs : s.length ≤ 80000) (hsum : sum ≤ 16777216) :
    ∃ R', feedL R (lastL ++ s) = (R', 5) ∧ R'.data = R.data ∧ isNone R'.st = true ∧ R'.fault = 0 := by
  have hd : dgs 0 0 [48] 1 0 := ⟨0, rfl, by decide, rfl, rfl⟩
  obtain ⟨R1, q5, q6, q7⟩ := line_take R sum t hR 0 1 [48] (13 :: 10 :: s) 1 hd (by decide) rfl (by decide) (by simp; omega) (by omega)
  have hw : wrap64 (R1.sum + ((0 : Nat) : Int)) = (sum : Int) := by
    rw [q6, hR.sum, show (sum : Int) + ((0 : Nat) : Int) = (sum : Int) by omega]
    exact w64c _ (by omega)
  have hb : ¬ 16777216 < wrap64 (R1.sum + ((0 : Nat) : Int)) := by rw [hw]; omega
  have hfl : (szd R1 0).fault = 0 := by unfold szd; exact if_neg hb
  have hst : (szd R1 0).st = .trailer := by unfold szd; simp only [if_neg hb]; rfl
  obtain ⟨R', t1, t2⟩ := trailer_feed (13 :: 10 :: s) [] (szd R1 0) 0 hst hfl (q5.text.trans hR.text) (q5.fields.trans hR.fields) (by simp; omega)
  have htl : tlG 0 [] (13 :: 10 :: s) = (2, true, 0) := by
    unfold tlG
    rw [if_pos (by decide), if_neg (by decide)]
    unfold tlG
    rfl
  rw [htl] at t1 t2
  have hh := t2.done
  rw [Bool.and_eq_true] at hh
  refine ⟨R', ?_, by rw [t2.data]; exact q5.data, hh.1, t2.fault⟩
  have : lastL ++ s = [48] ++ 13 :: 10 :: (13 :: 10 :: s) := rfl
  rw [this, q7, t1]
/-- What is before the end. -/
theorem feed_prefix : ∀ (s : List UInt8) (R R' : Rm) (n : Nat), feedL R s = (R', n) → n ≤ s.length ∧ ∀ p, p ≤ n → ∃ Rp, feedL R (s.take p) = (Rp, p) ∧ feedL Rp (s.drop p) = (R', n - p) ∧ (p < n → isNone Rp.st = false ∧ Rp.fault = 0)
  | [], R, R', n, h => by
    have h2 : n = 0 := (Prod.mk.inj h).2.symm
    subst h2
    refine ⟨Nat.le_refl _, fun p hp => ?_⟩
    obtain rfl : p = 0 := by omega
    exact ⟨R, rfl, h, fun e => by omega⟩
  | c :: s, R, R', n, h => by
    by_cases hg : isNone R.st = false ∧ R.fault = 0
    · rw [feedL_step hg.1 hg.2] at h
      have h1 := (Prod.mk.inj h).1
      have h2 := (Prod.mk.inj h).2
      obtain ⟨m, rfl⟩ : ∃ m, n = m + 1 := ⟨n - 1, by omega⟩
      have ih := feed_prefix s (nextR R c) R' m (by rw [← h1, ← Nat.add_right_cancel h2])
      refine ⟨by rw [List.length_cons]; omega, fun p hp => ?_⟩
      cases p with
      | zero => exact ⟨R, rfl, by rw [List.drop_zero, feedL_step hg.1 hg.2, h1, h2]; rfl, fun _ => hg⟩
      | succ p =>
        obtain ⟨Rp, i1, i2, i3⟩ := ih.2 p (by omega)
        refine ⟨Rp, ?_, ?_, fun e => i3 (by omega)⟩
        · rw [List.take_succ_cons, feedL_step hg.1 hg.2, i1]
        · rw [List.drop_succ_cons, i2, show m + 1 - (p + 1) = m - p by omega]
    · unfold feedL at h
      rw [if_neg hg] at h
      have h1 := (Prod.mk.inj h).1
      have h2 : n = 0 := (Prod.mk.inj h).2.symm
      subst h2
      refine ⟨Nat.zero_le _, fun p hp => ?_⟩
      obtain rfl : p = 0 := by omega
      exact ⟨R, rfl, by rw [List.drop_zero]; unfold feedL; rw [if_neg hg, h1], fun e => by omega⟩
/-- Texts as chunks, the last one, and what stands behind: what the machine makes of them. -/
theorem whole_feed (l : List (List UInt8)) (s : List UInt8) (hx : ∀ x ∈ l, x.length ≤ 4096) (hs : (encL l ++ (lastL ++ s)).length ≤ 40000) (hl : l.flatten.length ≤ 40000) :
    ∃ R', feedL (newR 2 0) (encL l ++ (lastL ++ s)) = (R', (encL l).length + 5) ∧ R'.data = l.flatten ∧ isNone R'.st = true ∧ R'.fault = 0 := by
  have hFr : Fr (newR 2 0) 0 0 := ⟨rfl, rfl, rfl, rfl, rfl, rfl, rfl, rfl, rfl⟩
  obtain ⟨R1, a1, a2, a3⟩ := enc_feed l (lastL ++ s) (newR 2 0) 0 0 hFr hx (by omega) (by omega) (by omega)
  obtain ⟨R2, b1, b2, b3, b4⟩ := last_feed s R1 _ _ a1 (by simp at hs; omega) (by omega)
  refine ⟨R2, ?_, ?_, b3, b4⟩
  · rw [a3, b1]
    simp only [Prod.mk.injEq, true_and]
    omega
  · rw [b2, a2]
    rfl
end Go.Proofs.YtllcfifeaacmiaaDoor.Pr
