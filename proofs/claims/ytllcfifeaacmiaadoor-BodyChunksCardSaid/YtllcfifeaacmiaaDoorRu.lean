import Derived.Test.YtllcfifeaacmiaaDoorRt
namespace Go.Proofs.YtllcfifeaacmiaaDoor.Pr
open Go.RowKit Go.Proofs.YtllcfifeaacmiaaDoorW.PrintWords Go.Proofs.YtllcfifeaacmiaaDoorW.PrintLast Go.Proofs.YtllcfifeaacmiaaDoorW.PrintMore
set_option linter.unusedVariables false
set_option linter.unusedSimpArgs false

/-! ### slices.Index at bytes; New, Total -/
def idxL (d : UInt8) : List UInt8 → Int → Int
  | [], _ => -1
  | c :: l, i => if c = d then i else idxL d l (i + 1)
theorem rd_ints (t : List UInt8) (i : Nat) (hi : i < t.length) : rd (ints t) (i : Int) = (t[i].toNat : Int) := by
  unfold rd ints
  rw [Int.toNat_natCast, List.getD_eq_getElem?_getD, List.getElem?_map, List.getElem?_eq_getElem hi]
  rfl
set_option maxHeartbeats 1000000 in
theorem index_any (t : List UInt8) (d : UInt8) (A : Option Addr) (n : Nat) (W : World) (hC : Kd.C (Kd.int .u8) W A (ints t).length (ints t)) (hl : t.length ≤ 1000000000) :
    Calls Tryd.prog 47 #[.slice A (ints t).length n, .int .u8 (d.toNat : Int)] W fun e W' => e = .returned (.int .i64 (idxL d t 0)) ∧ W' = W := by
  have HC := Aside0.mk hC
  have hlen : (ints t).length = t.length := ints_length t
  rw [hlen] at HC ⊢
  clear hC
  go_enter Tryd.func47, Tryd.ntmps47
  go_wp2_with fail
  go_loopw [8] (fun v8 wi => wi = W ∧ ∃ i : Nat, v8 = .int .i64 (i : Int) ∧ i ≤ t.length ∧ Aside0 (idxL d (t.drop i) (i : Int) = idxL d t 0)) (fun v8 _ => t.length - (intOf v8).toNat)
  case atStart => exact ⟨rfl, 0, rfl, Nat.zero_le _, ⟨rfl⟩⟩
  case round =>
    obtain ⟨rfl, i, rfl, hi, HI⟩ := hrel
    by_cases hlt : i < t.length
    · obtain ⟨ad, e, hx⟩ := Kd.at_int HC.out (i : Int) (by omega) (by omega)
      subst e
      rw [rd_ints t i hlt, Int.toNat_natCast] at hx
      have HD := HI.out
      rw [List.drop_eq_getElem_cons hlt] at HD
      have hwr : IntKind.i64.wrap ((i : Int) + 1) = (i : Int) + 1 := by rw [i64_w, IntWalk.wrap64_in _ (by omega)]
      by_cases hc : t[i] = d
      · have e1 : ((d.toNat : Int) == (t[i].toNat : Int)) = true := by rw [hc]; simp
        have HE : Aside0 (idxL d t 0 = (i : Int)) := ⟨by rw [← HD]; unfold idxL; rw [if_pos hc]⟩
        generalize t[i] = c at hx e1
        clear hc HD HI
        go_wp2_with fail
        go_ret
        exact ⟨by rw [HE.out]; rfl, rfl⟩
      · have e1 : ((d.toNat : Int) == (t[i].toNat : Int)) = false := beq_eq_false_iff_ne.2 (fun e => hc (UInt8.toNat_inj.1 (Int.ofNat.inj e)).symm)
        have HE : Aside0 (idxL d (t.drop (i + 1)) ((i + 1 : Nat) : Int) = idxL d t 0) := ⟨by
          rw [← HD]
          conv => rhs; unfold idxL; rw [if_neg hc]
          rfl⟩
        generalize t[i] = c at hx e1
        clear hc HD HI
        go_wp2_with fail
        exact ⟨⟨by trivial, i + 1, by go_num, by omega, HE⟩, by simp [intOf]; omega⟩
    · have HE : Aside0 (idxL d t 0 = -1) := ⟨by rw [← HI.out, List.drop_eq_nil_of_le (by omega)]; rfl⟩
      go_wp2_with fail
      go_ret
      exact ⟨by rw [HE.out]; rfl, rfl⟩
end Go.Proofs.YtllcfifeaacmiaaDoor.Pr
