import Derived.Test.YtikhoooiklkbiaaDoorKnum
import Derived.Test.YtikhoooiklkbiaaDoorGref
import Derived.Test.YtikhoooiklkbiaaDoorPrA6
namespace Go.Proofs.YtikhoooiklkbiaaDoor.Pr
open Go.RowKit Go.Proofs.YtikhoooiklkbiaaDoorW.PrintWords Go.Proofs.YtikhoooiklkbiaaDoorW.PrintLast Go.Proofs.YtikhoooiklkbiaaDoorW.PrintMore
set_option linter.unusedVariables false
set_option linter.unusedSimpArgs false

/-! ### The reference's number -/
theorem bt_mkB (s : List UInt8) (i : Nat) (hi : i < s.length) : bt (mkB s) (i : Int) = (s[i].toNat : Int) := by
  have hz : (i : Int).toNat < (mkB s).size := by rw [mkB_size, Int.toNat_natCast]; exact hi
  unfold bt
  rw [dif_pos hz]
  simp [mkB]
  rfl
theorem w16n (v : Nat) (h : v < 1048576) : wrap32 ((v : Int) * 16) = ((v * 16 : Nat) : Int) := by rw [IntWalk.wrap32_in _ (by omega)]; omega
theorem w16d (v d : Nat) (h : v < 1048576) (hd : d < 16) (x : Int) (hx : x = (d : Int)) : wrap32 (wrap32 ((v : Int) * 16) + x) = ((v * 16 + d : Nat) : Int) := by
  rw [w16n v h, hx, IntWalk.wrap32_in _ (by omega)]; omega
theorem w16e (v c : Nat) (h : v < 1048576) (hc : 97 ≤ c) (hc2 : c ≤ 102) : wrap32 (wrap32 (wrap32 ((v : Int) * 16) + ((c : Int) - 97) % 256) + 10) = ((v * 16 + (c - 87) : Nat) : Int) := by
  rw [w16n v h, IntWalk.wrap32_in (((v * 16 : Nat) : Int) + ((c : Int) - 97) % 256) (by omega), IntWalk.wrap32_in _ (by omega)]; omega
theorem m256 (c : Nat) (h : 48 ≤ c) (h2 : c ≤ 57) : ((c : Int) - 48) % 256 = ((c - 48 : Nat) : Int) := by omega
theorem j1_stop (s : ByteArray) (v j : Int) : Ev (fun k => portcullisref02_number.j1 k s v j false) (v, j) := Ev.one fun k => by
  simp only [portcullisref02_number.j1]
  rw [if_neg (by decide)]
theorem j1_none (s : List UInt8) (j v : Nat) (hj : j < s.length) (h : hexl s[j] = none) : Ev (fun k => portcullisref02_number.j1 k (mkB s) (v : Int) (j : Int) true) ((v : Int), (j : Int)) := by
  have hb := bt_mkB s j hj
  have g1 : (0 : Int) ≤ (j : Int) := Int.natCast_nonneg j
  have g2 : (j : Int) < ((mkB s).size : Int) := by rw [mkB_size]; exact Int.ofNat_lt.2 hj
  generalize s[j] = c at h hb
  unfold hexl at h
  have hno : ¬ (48 ≤ c.toNat ∧ c.toNat ≤ 57) := by intro e; rw [if_pos e] at h; cases h
  rw [if_neg hno] at h
  have hno2 : ¬ (97 ≤ c.toNat ∧ c.toNat ≤ 102) := by intro e; rw [if_pos e] at h; cases h
  have hj2 : Ev (fun k => portcullisref02_number.j2 k (mkB s) (v : Int) (j : Int) (c.toNat : Int) false) ((v : Int), (j : Int)) := Ev.one fun k => by
    simp only [portcullisref02_number.j2]
    rw [if_neg (by decide)]
    by_cases h1 : (c.toNat : Int) ≥ 97
    · rw [if_pos h1, if_neg (by omega)]
    · rw [if_neg h1]
  by_cases h48 : (c.toNat : Int) ≥ 48
  · have hd : decide ((c.toNat : Int) ≤ 57) = false := decide_eq_false (by omega)
    refine Ev.step (fun k => ?_) hj2
    simp only [portcullisref02_number.j1]
    rw [if_pos trivial, if_pos g1, if_pos g2, hb, if_pos h48, hd]
  · refine Ev.step (fun k => ?_) hj2
    simp only [portcullisref02_number.j1]
    rw [if_pos trivial, if_pos g1, if_pos g2, hb, if_neg h48]
theorem j1_some (s : List UInt8) (j v d : Nat) (hs : s.length ≤ 1000000) (hj : j < s.length) (hv : v < 1048576) (h : hexl s[j] = some d) (r : Int × Int) (hr : Ev (fun k => portcullisref02_number.l0 k (mkB s) ((v * 16 + d : Nat) : Int) ((j + 1 : Nat) : Int)) r) : Ev (fun k => portcullisref02_number.j1 k (mkB s) (v : Int) (j : Int) true) r := by
  have hb := bt_mkB s j hj
  have g1 : (0 : Int) ≤ (j : Int) := Int.natCast_nonneg j
  have g2 : (j : Int) < ((mkB s).size : Int) := by rw [mkB_size]; exact Int.ofNat_lt.2 hj
  have hw := w64n j (by omega)
  generalize s[j] = c at h hb
  unfold hexl at h
  by_cases h1 : 48 ≤ c.toNat ∧ c.toNat ≤ 57
  · rw [if_pos h1] at h
    have hd := Option.some.inj h
    have hd16 : d < 16 := by omega
    have h48 : (c.toNat : Int) ≥ 48 := by omega
    have hdec : decide ((c.toNat : Int) ≤ 57) = true := decide_eq_true (by omega)
    have hm : ((c.toNat : Int) - 48) % 256 = (d : Int) := by rw [m256 c.toNat h1.1 h1.2, hd]
    refine Ev.step (f := fun k => portcullisref02_number.j2 k (mkB s) (v : Int) (j : Int) (c.toNat : Int) true) (fun k => ?_) (Ev.step (fun k => ?_) hr)
    · simp only [portcullisref02_number.j1]
      rw [if_pos trivial, if_pos g1, if_pos g2, hb, if_pos h48, hdec]
    · simp only [portcullisref02_number.j2]
      rw [if_pos trivial, w16d v d hv hd16 _ hm, hw]
  · rw [if_neg h1] at h
    by_cases h2 : 97 ≤ c.toNat ∧ c.toNat ≤ 102
    · rw [if_pos h2] at h
      have hd := Option.some.inj h
      have h48 : (c.toNat : Int) ≥ 48 := by omega
      have h97 : (c.toNat : Int) ≥ 97 := by omega
      have h102 : (c.toNat : Int) ≤ 102 := by omega
      have hdec : decide ((c.toNat : Int) ≤ 57) = false := decide_eq_false (by omega)
      have he := w16e v c.toNat hv h2.1 h2.2
      rw [hd] at he
      refine Ev.step (f := fun k => portcullisref02_number.j2 k (mkB s) (v : Int) (j : Int) (c.toNat : Int) false) (fun k => ?_) (Ev.step (fun k => ?_) hr)
      · simp only [portcullisref02_number.j1]
        rw [if_pos trivial, if_pos g1, if_pos g2, hb, if_pos h48, hdec]
      · simp only [portcullisref02_number.j2]
        rw [if_neg (by decide), if_pos h97, if_pos h102, he, hw]
    · rw [if_neg h2] at h; cases h
theorem number_go (s : List UInt8) (hs : s.length ≤ 1000000) : ∀ (r j v : Nat), r + j = 6 → v < 16 ^ j → (j = 1 → ∃ h : 0 < s.length, hexl (s[0]'h) = some v) → j ≤ s.length →
    Ev (fun k => portcullisref02_number.l0 k (mkB s) (v : Int) (j : Int)) (((numK r (s.drop j) v j).1 : Int), ((numK r (s.drop j) v j).2 : Int))
  | 0, j, v, hr, hv, hJ, hj => by
    have h6 : ¬ (j : Int) < 6 := by omega
    show Ev _ ((v : Int), (j : Int))
    refine Ev.step (fun k => ?_) (j1_stop (mkB s) (v : Int) (j : Int))
    simp only [portcullisref02_number.l0]
    by_cases hlt : (j : Int) < ((mkB s).size : Int)
    · rw [if_pos hlt, if_neg h6]
    · rw [if_neg hlt]
  | r + 1, j, v, hr, hv, hJ, hj => by
    by_cases hjl : j = s.length
    · have hd : s.drop j = [] := List.drop_eq_nil_of_le (by omega)
      have hnl : ¬ (j : Int) < ((mkB s).size : Int) := by rw [mkB_size]; omega
      rw [hd]
      show Ev _ ((v : Int), (j : Int))
      refine Ev.step (fun k => ?_) (j1_stop (mkB s) (v : Int) (j : Int))
      simp only [portcullisref02_number.l0]
      rw [if_neg hnl]
    · have hlt : j < s.length := by omega
      have h6n : j < 6 := by omega
      have hv5 := pow16 h6n hv
      have h6 : (j : Int) < 6 := by omega
      have g2 : (j : Int) < ((mkB s).size : Int) := by rw [mkB_size]; exact Int.ofNat_lt.2 hlt
      rw [numK_drop s j r v j hlt]
      have hmain : (¬ (j = 1 ∧ v = 0)) → Ev (fun k => portcullisref02_number.j1 k (mkB s) (v : Int) (j : Int) true) (((match hexl s[j] with | none => (v, j) | some d => numK r (s.drop (j + 1)) (v * 16 + d) (j + 1)).1 : Int), ((match hexl s[j] with | none => (v, j) | some d => numK r (s.drop (j + 1)) (v * 16 + d) (j + 1)).2 : Int)) := by
        intro _
        cases hc : hexl s[j] with
        | none => exact j1_none s j v hlt hc
        | some d =>
          have hd16 : d < 16 := by
            unfold hexl at hc
            split at hc
            · cases hc; omega
            · split at hc
              · cases hc; omega
              · cases hc
          refine j1_some s j v d hs hlt hv5 hc _ (number_go s hs r (j + 1) (v * 16 + d) (by omega) (pow16s hv hd16) (fun e => ?_) (by omega))
          have hj0 : j = 0 := by omega
          subst hj0
          have hv0 : v = 0 := by simpa using hv
          subst hv0
          exact ⟨hlt, by rw [hc]; simp⟩
      by_cases hj1 : j = 1
      · obtain ⟨h0, hx0⟩ := hJ hj1
        have hb0 := bt_mkB s 0 h0
        have hz : (0 : Int) < ((mkB s).size : Int) := by rw [mkB_size]; omega
        have hji : (j : Int) = 1 := by omega
        by_cases hv0 : v = 0
        · rw [if_pos ⟨hj1, hv0⟩]
          have h48 : (s[0].toNat : Int) = 48 := by
            unfold hexl at hx0
            split at hx0
            · have := Option.some.inj hx0; omega
            · split at hx0
              · have := Option.some.inj hx0; omega
              · cases hx0
          have hbeq : (!(bt (mkB s) 0 == 48)) = false := by
            have : bt (mkB s) 0 = 48 := hb0.trans h48
            rw [this]; rfl
          refine Ev.step (fun k => ?_) (j1_stop (mkB s) (v : Int) (j : Int))
          simp only [portcullisref02_number.l0]
          rw [if_pos g2, if_pos h6, if_pos hji, if_pos hz, hbeq]
        · rw [if_neg (fun e => hv0 e.2)]
          have h48 : ¬ (s[0].toNat : Int) = 48 := by
            intro e
            unfold hexl at hx0
            rw [if_pos (by omega)] at hx0
            have := Option.some.inj hx0; omega
          have hbeq : (!(bt (mkB s) 0 == 48)) = true := by
            have h1 : bt (mkB s) 0 = (s[0].toNat : Int) := hb0
            rw [h1, beq_eq_false_iff_ne.2 h48]; rfl
          refine Ev.step (fun k => ?_) (hmain (fun e => hv0 e.2))
          simp only [portcullisref02_number.l0]
          rw [if_pos g2, if_pos h6, if_pos hji, if_pos hz, hbeq]
      · rw [if_neg (fun e => hj1 e.1)]
        have hji : ¬ (j : Int) = 1 := by omega
        refine Ev.step (fun k => ?_) (hmain (fun e => hj1 e.1))
        simp only [portcullisref02_number.l0]
        rw [if_pos g2, if_pos h6, if_neg hji]
        rfl
theorem number_is (s : List UInt8) (hs : s.length ≤ 1000000) : Ev (fun k => portcullisref02_number.f k (mkB s)) (((numK 6 s 0 0).1 : Int), ((numK 6 s 0 0).2 : Int)) := by
  have h := number_go s hs 6 0 0 rfl (by decide) (fun h => absurd h (by decide)) (Nat.zero_le _)
  rw [List.drop_zero] at h
  exact h
end Go.Proofs.YtikhoooiklkbiaaDoor.Pr
