/- Proved: the sum of any bytes is the one that the chapter says, in one piece or more, and of two parts that are joined (crc.Of, More, Joined against the reference); the law returns true for every input. No condition. -/
import Derived.Test.YtbeffjdplelojaaPrB1
import Derived.Test.YtbeffjdplelojaaBalive
namespace Go.Proofs.Ytbeffjdplelojaa.Pure
open Go.RowKit Go.Proofs.Ytbeffjdplelojaa.Pr Go.Proofs.YtbeffjdplelojaaW.PrintWords Go.Proofs.YtbeffjdplelojaaW.PrintLast
set_option linter.unusedVariables false
set_option linter.unusedSimpArgs false

theorem u32_nat {a : Int} (h : (Lit.int .u32 a).wf = true) : ∃ n : Nat, a = n ∧ n < 2 ^ 32 := by
  have h := h
  simp only [Lit.wf, Bool.and_eq_true, decide_eq_true_eq] at h
  have hmin : IntKind.u32.min = 0 := rfl
  have hmax : IntKind.u32.max = 4294967295 := rfl
  exact ⟨a.toNat, by omega, by omega⟩
theorem i64_le {a : Int} (h : (Lit.int .i64 a).wf = true) : a ≤ 9223372036854775807 := by
  have h := h
  simp only [Lit.wf, Bool.and_eq_true, decide_eq_true_eq] at h
  exact h.2
theorem CrcSums : portcullislaw22_CrcSums.Pure := by
  intro s t a2 a3 n hs ht w2 w3 w4
  refine ⟨20000, ?_⟩
  have ha : ∀ k, 100 ≤ k → portcullislaw22_alive.f k = some true := alive_is
  have ew : wrap64 ((s.size : Int) + (t.size : Int)) = ((s.size + t.size : Nat) : Int) := by unfold wrap64; omega
  unfold portcullislaw22_CrcSums.f
  rw [ew]
  by_cases h1 : ((s.size + t.size : Nat) : Int) > 8192
  · rw [if_pos h1, ha 20000 (by omega)]; rfl
  rw [if_neg h1]
  obtain ⟨a, rfl, hA⟩ := u32_nat w2
  obtain ⟨b, rfl, hB⟩ := u32_nat w3
  have zst : (s ++ t).size = s.size + t.size := by rw [size_bl (bl_append _ _), List.length_append, bl_length, bl_length]
  have lS := moreN_lt 0 (bl s) (by omega) (bl_lt s)
  have lT := moreN_lt 0 (bl t) (by omega) (bl_lt t)
  rw [of_nat s (by omega) 20000 (by omega), ref_of s (by omega) 20000 (by omega)]
  simp only [Option.bind_some, if_true]
  rw [more_nat a s hA (by omega) 20000 (by omega), ref_more a s hA (by omega) 20000 (by omega)]
  simp only [Option.bind_some, if_true]
  rw [more_nat _ t lS (by omega) 20000 (by omega), ref_of (s ++ t) (by omega) 20000 (by omega)]
  simp only [Option.bind_some]
  rw [if_pos (by omega), bl_append, ← moreN_append, bne_self_eq_false, portcullislaw22_CrcSums.j0, if_neg (by decide), of_nat s (by omega) 19999 (by omega), of_nat t (by omega) 19999 (by omega)]
  simp only [Option.bind_some]
  have j := joined_nat (moreN 0 (bl s)) (moreN 0 (bl t)) t.size lS lT (by omega)
  have hj := joinN (bl s) (bl t)
  rw [bl_length] at hj
  rw [hj] at j
  rw [j]
  simp only [Option.bind_some, if_true]
  rw [if_pos (by omega), ref_of (s ++ t) (by omega) 19999 (by omega), bl_append]
  simp only [Option.bind_some]
  rw [bne_self_eq_false, portcullislaw22_CrcSums.j1, if_neg (by decide)]
  by_cases hn : n < 0
  · have : crc_Joined.f (a : Int) (b : Int) n = some (0, 2) := by unfold crc_Joined.f; rw [if_pos hn]
    rw [this]
    simp only [Option.bind_some]
    rw [if_pos hn, ha 19998 (by omega)]
    simp
  · have hn9 := i64_le w4
    obtain ⟨m, rfl⟩ : ∃ m : Nat, n = m := ⟨n.toNat, by omega⟩
    rw [joined_nat a b m hA hB (by omega)]
    simp only [Option.bind_some]
    rw [if_neg hn, if_pos (by trivial)]
    by_cases hm : (m : Int) > 8192
    · rw [if_pos hm, ha 19998 (by omega)]; rfl
    · rw [if_neg hm, ref_joined a b m hA hB (by omega) 19998 (by omega)]
      simp only [Option.bind_some, if_true]
      rw [ha 19998 (by omega)]
      rfl
end Go.Proofs.Ytbeffjdplelojaa.Pure
