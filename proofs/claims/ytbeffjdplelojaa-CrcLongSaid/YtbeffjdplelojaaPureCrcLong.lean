/- Proved: joined sums over two lengths, one behind the other, come to what they come to over both together (crc.Joined), for every sum and every two lengths that the law lets in; the law returns true for every input. No condition. -/
import Derived.Test.YtbeffjdplelojaaPrB2
import Derived.Test.YtbeffjdplelojaaBalive
namespace Go.Proofs.Ytbeffjdplelojaa.Pure
open Go.RowKit Go.Proofs.Ytbeffjdplelojaa.Pr Go.Proofs.YtbeffjdplelojaaW.PrintWords Go.Proofs.YtbeffjdplelojaaW.PrintLast
set_option linter.unusedVariables false
set_option linter.unusedSimpArgs false

theorem u32_nat {a : Int} (h : (Lit.int .u32 a).wf = true) : ∃ n : Nat, a = n ∧ n < 2 ^ 32 := by
  have h := h
  simp only [Lit.wf, Bool.and_eq_true, decide_eq_true_eq] at h
  have hmin : IntKind.u32.min = 0 := rfl
  have hmax : IntKind.u32.max = 4294967295 := rfl
  exact ⟨a.toNat, by omega, by omega⟩
theorem CrcLong : portcullislaw22_CrcLong.Pure := by
  intro a0 a1 a2 w0 _ _
  refine ⟨200, ?_⟩
  have hz : portcullislaw22_CrcLong.j0 200 a0 a1 a2 true = some true := by
    rw [portcullislaw22_CrcLong.j0, if_pos rfl, alive_is 199 (by omega)]
    rfl
  unfold portcullislaw22_CrcLong.f
  by_cases h1 : a1 < 0
  · rw [if_pos h1, hz]
  by_cases h2 : a2 < 0
  · rw [if_neg h1, if_pos h2, hz]
  by_cases h3 : a1 > 2305843009213693952
  · rw [if_neg h1, if_neg h2, if_pos h3, hz]
  by_cases h4 : a2 > 2305843009213693952
  · rw [if_neg h1, if_neg h2, if_neg h3, decide_eq_true h4, hz]
  rw [if_neg h1, if_neg h2, if_neg h3, decide_eq_false h4, portcullislaw22_CrcLong.j0, if_neg (by decide)]
  obtain ⟨a, rfl, ha⟩ := u32_nat w0
  obtain ⟨n, rfl⟩ : ∃ n : Nat, a1 = n := ⟨a1.toNat, by omega⟩
  obtain ⟨m, rfl⟩ : ∃ n : Nat, a2 = n := ⟨a2.toNat, by omega⟩
  have hn := iter_lin N8_lin n
  have hm := iter_lin N8_lin m
  have e : wrap64 ((n : Int) + (m : Int)) = ((n + m : Nat) : Int) := by unfold wrap64; omega
  have j1 := joined_nat 0 0 m (by omega) (by omega) (by omega)
  have j2 := joined_nat a 0 n ha (by omega) (by omega)
  have j3 := joined_nat 0 0 n (by omega) (by omega) (by omega)
  have j5 := joined_nat a 0 (n + m) ha (by omega) (by omega)
  have j4 := joined_nat (iter N8 n a) 0 m (hn.lt a ha) (by omega) (by omega)
  rw [Nat.xor_zero] at j1 j2 j3 j4 j5
  rw [hm.zero] at j1
  rw [hn.zero] at j3
  rw [iter_add] at j5
  have x0 := xor32 (iter N8 n a) 0 (hn.lt a ha) (by omega)
  rw [Nat.xor_zero] at x0
  rw [show ((0 : Nat) : Int) = 0 from rfl] at j1 j2 j3 j4 j5 x0
  rw [e, j1, j2, j3]
  simp only [Option.bind_some]
  rw [x0, j4, j5]
  simp only [Option.bind_some]
  rw [alive_is 199 (by omega)]
  simp
end Go.Proofs.Ytbeffjdplelojaa.Pure
