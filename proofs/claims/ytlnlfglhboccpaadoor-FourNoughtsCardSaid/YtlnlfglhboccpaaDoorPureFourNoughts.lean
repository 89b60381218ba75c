/- Proved: noughts ahead of a number by eight or sixteen change nothing, and a number that is written is read as itself. -/
import Derived.Test.YtlnlfglhboccpaaDoorGwr
namespace Go.Proofs.YtlnlfglhboccpaaDoor.Pure
open Go.RowKit Go.Proofs.YtlnlfglhboccpaaDoor.Pr Go.Proofs.YtlnlfglhboccpaaDoorW.PrintWords Go.Proofs.YtlnlfglhboccpaaDoorW.PrintLast
theorem n_u32_wf {a : Int} (h : (Lit.int .u32 a).wf = true) : 0 ≤ a ∧ a < 4294967296 := by
  simp [Lit.wf, IntKind.min, IntKind.max, IntKind.signed, IntKind.bits] at h
  omega
theorem n_u8_wf {a : Int} (h : (Lit.int .u8 a).wf = true) : 0 ≤ a ∧ a < 256 := by
  simp [Lit.wf, IntKind.min, IntKind.max, IntKind.signed, IntKind.bits] at h
  omega
theorem numS (l : List UInt8) (h : l.length ≤ 1000) : four_Number.f (mkB l) = some (numF (mkB l)) := num_some _ (by rw [mkB_size]; omega)
theorem rep_snoc (j : Nat) : List.replicate j (48 : UInt8) ++ [48] = List.replicate (j + 1) 48 := by rw [List.replicate_succ']
theorem nought_l0 (k : Nat) (x0 x1 x2 : Int) (x7 : ByteArray) (N : Nat) (hN : Int.tmod x2 30 = (N : Int)) (hN2 : N ≤ 29) : ∀ (d j : Nat), j + d = N →
    portcullislaw10_FourNoughts.l0 (k + 1 + d) x0 x1 x2 x7 (mkB (List.replicate j 48)) (j : Int) = portcullislaw10_FourNoughts.l0 (k + 1) x0 x1 x2 x7 (mkB (List.replicate N 48)) (N : Int)
  | 0, j, h => by rw [show j = N by omega]
  | d + 1, j, h => by
    rw [show k + 1 + (d + 1) = (k + 1 + d) + 1 from rfl]
    conv => lhs; unfold portcullislaw10_FourNoughts.l0
    rw [hN, if_pos (by omega), mkB_size, List.length_replicate, if_pos (by omega), show (⟨#[48]⟩ : ByteArray) = mkB [48] from rfl, mkB_append, rep_snoc, show ((j : Int) + 1) % 256 = ((j + 1 : Nat) : Int) by omega]
    exact nought_l0 k x0 x1 x2 x7 N hN hN2 d (j + 1) (by omega)
theorem FourNoughts : portcullislaw10_FourNoughts.Pure := by
  intro a0 a1 a2 h0 h1 h2
  obtain ⟨h00, h01⟩ := n_u32_wf h0
  obtain ⟨h10, h11⟩ := n_u8_wf h1
  obtain ⟨h20, h21⟩ := n_u8_wf h2
  obtain ⟨n, rfl⟩ := Int.eq_ofNat_of_zero_le h00
  have hw : IntKind.u64.wrap (n : Int) = (n : Int) := uwrap_small (by omega) (by omega)
  have ht : Int.tmod a1 3 = a1 % 3 := Int.tmod_eq_emod_of_nonneg h10
  have ht2 : Int.tmod a2 30 = ((a2 % 30).toNat : Int) := by rw [Int.tmod_eq_emod_of_nonneg h20]; omega
  obtain ⟨b, hb⟩ : ∃ b : Nat, a1 % 3 = (b : Int) := ⟨(a1 % 3).toNat, by omega⟩
  have hb2 : b ≤ 2 := by omega
  have hlen := wrL_len n b (by omega)
  have hnum := numF_wr n b hb2
  have hof : numOf n = ((n : Int), 0) := by unfold numOf; rw [if_pos (by omega)]
  obtain ⟨N, hN⟩ : ∃ N : Nat, (a2 % 30).toNat = N := ⟨_, rfl⟩
  rw [hN] at ht2
  have hN2 : N ≤ 29 := by omega
  have hwr : portcullislaw10_written.f (n : Int) (b : Int) = some (mkB (wrL n b)) := by
    unfold portcullislaw10_written.f
    rw [if_pos ⟨by omega, by omega, by omega, by omega⟩]
    rfl
  refine ⟨20 + 1 + N, ?_⟩
  unfold portcullislaw10_FourNoughts.f
  rw [hw, ht, hb, hwr, Option.bind_some]
  have hl := nought_l0 20 (n : Int) a1 a2 (mkB (wrL n b)) N ht2 hN2 N 0 (by omega)
  refine hl.trans ?_
  unfold portcullislaw10_FourNoughts.l0
  rw [ht2, if_neg (by omega), numS _ (by omega), Option.bind_some, hnum, hof, hw, if_pos rfl, show ((0 : Int) != 0) = false from rfl]
  show portcullislaw10_FourNoughts.j1 (19 + 1) _ _ _ _ _ _ _ = _
  rw [portcullislaw10_FourNoughts.j1]
  have hr : (List.replicate N (48 : UInt8)).length = N := List.length_replicate
  have hwk := works_eq 9
  rw [if_neg Bool.false_ne_true, ht, hb]
  rcases (by omega : b = 0 ∨ b = 1 ∨ b = 2) with rfl | rfl | rfl
  · have hlen2 : 2 ≤ (wrL n 0).length := by simp [wrL]
    rw [if_pos rfl, mkB_size, hr, if_pos (show 2 + N ≤ 9223372036854775807 by omega), mkB_size, if_pos (show (2 : Int) ≤ ((wrL n 0).length : Int) by omega), show (⟨#[48, 120]⟩ : ByteArray) = mkB [48, 120] from rfl, mkB_append, mkB_size, mkB_ext, mkB_size, data_mkB, mkB_append]
    have e : [48, 120] ++ List.replicate N (48 : UInt8) ++ List.drop 2 (List.take (wrL n 0).length (wrL n 0)) = 48 :: 120 :: (List.replicate N 48 ++ digs 16 n) := by
      rw [List.take_of_length_le (Nat.le_refl _)]; simp [wrL]
    have hc1 : (([48, 120] : List UInt8) ++ List.replicate N 48).length + (List.drop 2 (List.take (wrL n 0).length (wrL n 0))).length ≤ 9223372036854775807 := by simp; omega
    rw [if_pos hc1, e, numS _ (by simp [wrL] at hlen ⊢; omega), Option.bind_some, numF_hex, hof, hw, if_pos rfl, if_pos rfl, hwk]
    rfl
  · have hlen2 : 1 ≤ (wrL n 1).length := by simp [wrL]
    rw [if_neg (by decide), if_pos rfl, mkB_size, hr, if_pos (show 1 + N ≤ 9223372036854775807 by omega), mkB_size, if_pos (show (1 : Int) ≤ ((wrL n 1).length : Int) by omega), show (⟨#[48]⟩ : ByteArray) = mkB [48] from rfl, mkB_append, mkB_size, mkB_ext, mkB_size, data_mkB, mkB_append]
    have e : [48] ++ List.replicate N (48 : UInt8) ++ List.drop 1 (List.take (wrL n 1).length (wrL n 1)) = 48 :: (List.replicate N 48 ++ digs 8 n) := by
      rw [List.take_of_length_le (Nat.le_refl _)]; simp [wrL]
    have hc1 : (([48] : List UInt8) ++ List.replicate N 48).length + (List.drop 1 (List.take (wrL n 1).length (wrL n 1))).length ≤ 9223372036854775807 := by simp; omega
    rw [if_pos hc1, e, numS _ (by simp [wrL] at hlen ⊢; omega), Option.bind_some, numF_oct, hof, hw, if_pos rfl, if_pos rfl, hwk]
    rfl
  · rw [if_neg (by decide), if_neg (by decide), hw, if_pos rfl, if_pos rfl, hwk]
    rfl
end Go.Proofs.YtlnlfglhboccpaaDoor.Pure
