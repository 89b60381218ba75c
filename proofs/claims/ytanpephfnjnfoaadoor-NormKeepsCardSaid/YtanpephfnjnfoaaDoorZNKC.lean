import Derived.Test.YtanpephfnjnfoaaDoorZNKB
section
namespace Go.Proofs.YtanpephfnjnfoaaDoor.Pr
open Go.RowKit Go.Proofs.YtanpephfnjnfoaaDoorW.PrintWords Go.Proofs.YtanpephfnjnfoaaDoorW.PrintLast Go.Proofs.YtanpephfnjnfoaaDoorW.PrintMore
set_option linter.unusedVariables false
set_option linter.unusedSimpArgs false

/-- What merging a row's two sorted pieces says. -/
def SymAt (N : Nat) : Prop := ∀ (w0 : World) (blk cap : Nat) (pre post : List Value) (X A B Y : List Int), A.length + B.length ≤ N → 0 < A.length → 0 < B.length → Nz (A ++ B) → Srt A → Srt B → (X ++ (A ++ (B ++ Y))).length ≤ 1000000 → ∀ W : World, Win w0 blk pre post (X ++ (A ++ (B ++ Y))) W →
    Calls Tryd.prog 63 #[.slice (some ⟨blk, pre.length, none⟩) (X ++ (A ++ (B ++ Y))).length cap, .int .i64 (X.length : Int), .int .i64 ((X.length + A.length : Nat) : Int), .int .i64 ((X.length + A.length + B.length : Nat) : Int), .func (.func 25) #[] #[]] W fun e w' => e = .returned (.tuple #[]) ∧ ∃ C, Stb (A ++ B) C ∧ Win w0 blk pre post (X ++ (C ++ Y)) w'
set_option maxHeartbeats 8000000 in
set_option maxRecDepth 100000 in
theorem sym_step (N : Nat) (IH : SymAt N) (w0 : World) (blk cap : Nat) (pre post : List Value) (X A B Y : List Int) (hN : A.length + B.length ≤ N + 1) (hA2 : 2 ≤ A.length) (hB2 : 2 ≤ B.length) (hz : Nz (A ++ B)) (hsA : Srt A) (hsB : Srt B) (hn : (X ++ (A ++ (B ++ Y))).length ≤ 1000000) (W : World) (h : Win w0 blk pre post (X ++ (A ++ (B ++ Y))) W) :
    Calls Tryd.prog 63 #[.slice (some ⟨blk, pre.length, none⟩) (X ++ (A ++ (B ++ Y))).length cap, .int .i64 (X.length : Int), .int .i64 ((X.length + A.length : Nat) : Int), .int .i64 ((X.length + A.length + B.length : Nat) : Int), .func (.func 25) #[] #[]] W fun e w' => e = .returned (.tuple #[]) ∧ ∃ C, Stb (A ++ B) C ∧ Win w0 blk pre post (X ++ (C ++ Y)) w' := by
  have mixed : Tryd.prog.follows .mixedOrders = true := by kernel_rfl
  obtain ⟨n, hnn⟩ : ∃ n, (X ++ (A ++ (B ++ Y))).length = n := ⟨_, rfl⟩
  obtain ⟨o, ho⟩ : ∃ o, pre.length = o := ⟨_, rfl⟩
  obtain ⟨a, ha⟩ : ∃ a, X.length = a := ⟨_, rfl⟩
  obtain ⟨m, hm⟩ : ∃ m, m = a + A.length := ⟨_, rfl⟩
  obtain ⟨b, hb⟩ : ∃ b, b = m + B.length := ⟨_, rfl⟩
  obtain ⟨mid, hmid⟩ : ∃ mid, mid = (a + b) / 2 := ⟨_, rfl⟩
  rw [hnn] at hn
  rw [hnn, ho, ha, ← hm, ← hb]
  have hbn : b ≤ n := by rw [hb, hm, ← ha, ← hnn]; simp only [List.length_append]; omega
  have hu : n = X.length + (A.length + (B.length + Y.length)) := by rw [← hnn]; simp only [List.length_append]
  have k1 : a + 2 ≤ m := by omega
  have k2 : m + 2 ≤ b := by omega
  have k3 : a < mid := by omega
  have k4 : mid < b := by omega
  have hb2 : 2 * mid ≤ a + b ∧ a + b ≤ 2 * mid + 1 := by omega
  have HF := Aside0.mk hu
  have HO := Aside0.mk ho
  have HA := Aside0.mk ha
  have HM := Aside0.mk hm
  have HB := Aside0.mk hb
  have S0 := Aside0.mk h
  have HZ := Aside0.mk hz
  have HSA := Aside0.mk hsA
  have HSB := Aside0.mk hsB
  have HN := Aside0.mk hN
  have HNN := Aside0.mk hnn
  have HH := Aside0.mk hb2
  have HMD : Aside0 (((a : Int) + (b : Int)) / 2 = (mid : Int)) := ⟨by omega⟩
  have hd1 : ((m : Int) - (a : Int) == 1) = false := beq_eq_false_iff_ne.2 (by omega)
  have hd2 : ((b : Int) - (m : Int) == 1) = false := beq_eq_false_iff_ne.2 (by omega)
  clear h hnn hu ho ha hm hb hA2 hB2 hmid hb2 hz hsA hsB hN
  -- where the search begins and ends
  obtain ⟨s0, r0, q0⟩ : ∃ s0 r0 : Nat, Aside0 ((mid < m ∧ s0 + b = mid + m ∧ r0 = mid) ∨ (¬ mid < m ∧ s0 = a ∧ r0 = m)) := by
    by_cases hc : mid < m
    · exact ⟨mid + m - b, mid, ⟨.inl ⟨hc, by have := HH.out; omega, rfl⟩⟩⟩
    · exact ⟨a, m, ⟨.inr ⟨hc, rfl, rfl⟩⟩⟩
  have q1 : a ≤ s0 := by have := q0.out; have := HH.out; omega
  have q2 : r0 ≤ m := by have := q0.out; omega
  have q3 : s0 ≤ r0 := by have := q0.out; have := HH.out; omega
  have q4 : r0 ≤ mid := by have := q0.out; omega
  have q5 : mid + m ≤ s0 + b := by have := q0.out; have := HH.out; omega
  have F0 : Aside0 (∀ k j x y, k + a + 1 = s0 → j + m + s0 = mid + m → A[k]? = some x → B[j]? = some y → clsU x ≤ clsU y) := ⟨fun k j x y h1 h2 hx hy => by
    have := (List.getElem?_eq_some_iff.1 hy).1
    have := HB.out
    have := q0.out
    omega⟩
  have G0 : Aside0 (∀ k j x y, k + a = r0 → j + m + r0 + 1 = mid + m → A[k]? = some x → B[j]? = some y → clsU y < clsU x) := ⟨fun k j x y h1 h2 hx hy => by
    have := (List.getElem?_eq_some_iff.1 hx).1
    have := HM.out
    have := q0.out
    omega⟩
  obtain ⟨p, hp⟩ : ∃ p, p + 1 = mid + m := ⟨mid + m - 1, by omega⟩
  have hpz : (mid : Int) + (m : Int) - 1 = (p : Int) := by omega
  have hpn : Aside0 (mid + m = p + 1) := ⟨hp.symm⟩
  clear hp
  have hs0 : Aside0 (mid < m → (mid : Int) + (m : Int) - (b : Int) = (s0 : Int)) := ⟨fun h => by have := q0.out; omega⟩
  replace IH := Aside0.mk IH
  go_enter Tryd.func63, Tryd.ntmps63
  go_upto_region 25 with (first | simp only [hd1] | simp only [hd2])
  rw [HMD.out]
  clear hd1 hd2 HMD
  by_cases hc : mid < m
  · go_upto_region 32 with (fail)
    rw [hs0.out hc]
    obtain rfl : mid = r0 := by have := q0.out; omega
    clear q0 hs0
    go_wp2_with (simp only [hpz])
    clear hpz hc
    go_loopw [20, 21] (fun vi vj wr => ∃ s r : Nat, vi = .int .i64 s ∧ vj = .int .i64 r ∧ Srch s0 mid (fun s => ∀ k j x y, k + a + 1 = s → j + m + s = mid + m → A[k]? = some x → B[j]? = some y → clsU x ≤ clsU y) (fun r => ∀ k j x y, k + a = r → j + m + r + 1 = mid + m → A[k]? = some x → B[j]? = some y → clsU y < clsU x) (Win w0 blk pre post (X ++ (A ++ (B ++ Y)))) s r wr) (fun vi vj _ => (intOf vj).toNat - (intOf vi).toNat)
    case atStart => exact ⟨s0, mid, by rfl, by rfl, ⟨Nat.le_refl _, q3, Nat.le_refl _, F0.out, G0.out, S0.out⟩⟩
    case round =>
      clear S0 F0 G0
      obtain ⟨s, r, rfl, rfl, ⟨h1, h2, h3, H1, H2, S1⟩⟩ := hrel
      replace H1 := Aside0.mk H1
      replace H2 := Aside0.mk H2
      replace S1 := Aside0.mk S1
      by_cases hij : s < r
      · go_wp2_with fail
        obtain ⟨c, hh⟩ : ∃ c : Nat, c = (s + r) / 2 := ⟨_, rfl⟩
        have hhz : ((s : Int) + (r : Int)) / 2 = (c : Int) := by omega
        rw [hhz]
        have h4 : s ≤ c := by omega
        have h5 : c < r := by omega
        obtain ⟨q, hq⟩ : ∃ q, q + c = p := ⟨p - c, by have := hpn.out; omega⟩
        have h6 : m ≤ q := by have := hpn.out; omega
        have h7 : q < b := by have := hpn.out; omega
        obtain ⟨x, hx⟩ : ∃ x, A[c - a]? = some x := ⟨_, List.getElem?_eq_getElem (by have := HM.out; omega)⟩
        obtain ⟨y, hy⟩ : ∃ y, B[q - m]? = some y := ⟨_, List.getElem?_eq_getElem (by have := HB.out; omega)⟩
        have c2 : wr.cell? ⟨blk, o + c, none⟩ = some (.int .i32 x) := by
          rw [← HO.out]
          refine S1.out.cell ?_
          have hA := HA.out
          rw [List.getElem?_append_right (by omega), show c - X.length = c - a by omega, List.getElem?_append_left (List.getElem?_eq_some_iff.1 hx).1]
          exact hx
        have c1 : wr.cell? ⟨blk, o + (p - c), none⟩ = some (.int .i32 y) := by
          rw [show p - c = q by omega, ← HO.out]
          refine S1.out.cell ?_
          have hA := HA.out
          have hM := HM.out
          rw [List.getElem?_append_right (by omega), List.getElem?_append_right (by omega), show q - X.length - A.length = q - m by omega, List.getElem?_append_left (List.getElem?_eq_some_iff.1 hy).1]
          exact hy
        have e1 : (c : Int) < (n : Int) := by omega
        have e2 : (q : Int) < (n : Int) := by omega
        have hpq : (p : Int) - (c : Int) = (q : Int) := by omega
        have r2 : (0 : Int) ≤ (p : Int) - (c : Int) := by omega
        have r3 : (p : Int) - (c : Int) < (n : Int) := by omega
        have r4 : ((p : Int) - (c : Int)).toNat = p - c := by omega
        have r5 : c ≤ p := by omega
        have r6 : (c : Int) ≤ (p : Int) := by omega
        have r7 : (p : Int) < (n : Int) + (c : Int) := by omega
        have r8 : p - c < n := by omega
        have r1 : IntKind.i64.wrap ((p : Int) - (c : Int)) = (p : Int) - (c : Int) := by rw [IntKind.wrap_i64]; omega
        clear hpq
        have HQ := Aside0.mk hq
        clear hhz hh hq
        by_cases hc : clsU y < clsU x
        · have hcf2 : cfO y x < 0 := (cfO_lt y x).2 hc
          have hcf : decide (cfO y x < 0) = true := decide_eq_true hcf2
          have H2' : Aside0 (∀ k j x y, k + a = c → j + m + c + 1 = mid + m → A[k]? = some x → B[j]? = some y → clsU y < clsU x) := ⟨fun k j x' y' hk hj hx' hy' => by
            obtain rfl : k = c - a := by omega
            obtain rfl : j = q - m := by have := hpn.out; have := HQ.out; omega
            rw [hx] at hx'
            rw [hy] at hy'
            obtain rfl := Option.some.inj hx'
            obtain rfl := Option.some.inj hy'
            exact hc⟩
          clear hc H2 hx hy HQ
          go_region_held3 (fun w' => w'.cell? ⟨blk, o + (p - c), none⟩ = some (.int .i32 y) ∧ w'.cell? ⟨blk, o + c, none⟩ = some (.int .i32 x) ∧ RS wr ⟨blk, o + (p - c), none⟩ ⟨blk, o + c, none⟩ y x w') (first | exact RS.facts (RS.start c1 c2) | exact RS.facts (by assumption)) (first | (go_at_call 25; (with_reducible refine (ordcmp _ _ _).mono ?_); rintro e w9 ⟨rfl, hb9⟩; have hx9 := RS.keep (RS.of (by assumption)) hb9))
          replace S1 := Aside0.mk (S1.out.below hx9.bel)
          clear hx9 hb9 c1 c2
          go_wp2_with fail
          go_roundw
          case rel => exact ⟨s, c, rfl, rfl, ⟨by omega, by omega, by omega, H1.out, H2'.out, S1.out⟩⟩
          case measure => simp [intOf]; omega
        · have hcf2 : ¬ cfO y x < 0 := fun h => hc ((cfO_lt y x).1 h)
          have hcf : decide (cfO y x < 0) = false := decide_eq_false hcf2
          have H1' : Aside0 (∀ k j x y, k + a + 1 = c + 1 → j + m + (c + 1) = mid + m → A[k]? = some x → B[j]? = some y → clsU x ≤ clsU y) := ⟨fun k j x' y' hk hj hx' hy' => by
            obtain rfl : k = c - a := by omega
            obtain rfl : j = q - m := by have := hpn.out; have := HQ.out; omega
            rw [hx] at hx'
            rw [hy] at hy'
            obtain rfl := Option.some.inj hx'
            obtain rfl := Option.some.inj hy'
            exact Int.not_lt.1 hc⟩
          clear hc H1 hx hy HQ
          go_region_held3 (fun w' => w'.cell? ⟨blk, o + (p - c), none⟩ = some (.int .i32 y) ∧ w'.cell? ⟨blk, o + c, none⟩ = some (.int .i32 x) ∧ RS wr ⟨blk, o + (p - c), none⟩ ⟨blk, o + c, none⟩ y x w') (first | exact RS.facts (RS.start c1 c2) | exact RS.facts (by assumption)) (first | (go_at_call 25; (with_reducible refine (ordcmp _ _ _).mono ?_); rintro e w9 ⟨rfl, hb9⟩; have hx9 := RS.keep (RS.of (by assumption)) hb9))
          replace S1 := Aside0.mk (S1.out.below hx9.bel)
          clear hx9 hb9 c1 c2
          go_wp2_with fail
          go_roundw
          case rel => exact ⟨c + 1, r, by go_num, rfl, ⟨by omega, by omega, by omega, H1'.out, H2.out, S1.out⟩⟩
          case measure => simp [intOf]; omega
      · obtain rfl : s = r := by omega
        have hA := HA.out
        have hM := HM.out
        have hB := HB.out
        have hH := HH.out
        have hP := hpn.out
        obtain ⟨e, he⟩ : ∃ e, e + s = mid + m := ⟨mid + m - s, by omega⟩
        have hez : (mid : Int) + (m : Int) - (s : Int) = (e : Int) := by omega
        obtain ⟨A1, A2, hA12, hA1⟩ : ∃ A1 A2, A = A1 ++ A2 ∧ A1.length = s - a := ⟨A.take (s - a), A.drop (s - a), (List.take_append_drop _ _).symm, by rw [List.length_take]; omega⟩
        obtain ⟨B1, B2, hB12, hB1⟩ : ∃ B1 B2, B = B1 ++ B2 ∧ B1.length = e - m := ⟨B.take (e - m), B.drop (e - m), (List.take_append_drop _ _).symm, by rw [List.length_take]; omega⟩
        have hA2 : A2.length = m - s := by have : A.length = A1.length + A2.length := by rw [hA12, List.length_append]
                                           omega
        have hB2 : B2.length = b - e := by have : B.length = B1.length + B2.length := by rw [hB12, List.length_append]
                                           omega
        have hsA := HSA.out
        have hsB := HSB.out
        have hz := HZ.out
        rw [hA12] at hsA
        rw [hB12] at hsB
        obtain ⟨pA1, pA2, pA3⟩ := List.pairwise_append.1 hsA
        obtain ⟨pB1, pB2, pB3⟩ := List.pairwise_append.1 hsB
        have K1 : ∀ x ∈ A2, ∀ y ∈ B1, clsU y < clsU x := fun x hx y hy => by
          have l2 := List.length_pos_of_mem hx
          have l1 := List.length_pos_of_mem hy
          obtain ⟨u, hu⟩ : ∃ u, A2[0]? = some u := ⟨_, List.getElem?_eq_getElem l2⟩
          obtain ⟨v, hv⟩ : ∃ v, B1[B1.length - 1]? = some v := ⟨_, List.getElem?_eq_getElem (by omega)⟩
          obtain ⟨k, hk⟩ := List.getElem?_of_mem hx
          obtain ⟨j, hj⟩ := List.getElem?_of_mem hy
          have hjl := (List.getElem?_eq_some_iff.1 hj).1
          have e1 : clsU u ≤ clsU x := Srt.le (i := 0) (j := k) pA2 (by omega) hu hk
          have e2 : clsU y ≤ clsU v := Srt.le (i := j) (j := B1.length - 1) pB1 (by omega) hj hv
          have hu2 : A[A1.length]? = some u := by rw [hA12, List.getElem?_append_right (Nat.le_refl _), Nat.sub_self]; exact hu
          have hv2 : B[B1.length - 1]? = some v := by rw [hB12, List.getElem?_append_left (by omega)]; exact hv
          have := H2.out A1.length (B1.length - 1) u v (by omega) (by omega) hu2 hv2
          omega
        have K2 : ∀ x ∈ A1, ∀ y ∈ B2, clsU x ≤ clsU y := fun x hx y hy => by
          have l2 := List.length_pos_of_mem hx
          have l1 := List.length_pos_of_mem hy
          obtain ⟨u, hu⟩ : ∃ u, A1[A1.length - 1]? = some u := ⟨_, List.getElem?_eq_getElem (by omega)⟩
          obtain ⟨v, hv⟩ : ∃ v, B2[0]? = some v := ⟨_, List.getElem?_eq_getElem l1⟩
          obtain ⟨k, hk⟩ := List.getElem?_of_mem hx
          obtain ⟨j, hj⟩ := List.getElem?_of_mem hy
          have hkl := (List.getElem?_eq_some_iff.1 hk).1
          have e1 : clsU x ≤ clsU u := Srt.le (i := k) (j := A1.length - 1) pA1 (by omega) hk hu
          have e2 : clsU v ≤ clsU y := Srt.le (i := 0) (j := j) pB2 (by omega) hv hj
          have hu2 : A[A1.length - 1]? = some u := by rw [hA12, List.getElem?_append_left (by omega)]; exact hu
          have hv2 : B[B1.length]? = some v := by rw [hB12, List.getElem?_append_right (Nat.le_refl _), Nat.sub_self]; exact hv
          have := H1.out (A1.length - 1) B1.length u v (by omega) (by omega) hu2 hv2
          omega
        have nzB1 : Nz B1 := fun x hx => hz x (by rw [hB12]; simp [hx])
        have nzL : Nz (A1 ++ B1) := fun x hx => hz x (by rw [hA12, hB12]; rcases List.mem_append.1 hx with h | h <;> simp [h])
        have nzR : Nz (A2 ++ B2) := fun x hx => hz x (by rw [hA12, hB12]; rcases List.mem_append.1 hx with h | h <;> simp [h])
        have sL : s = a ∨ s = mid → Srt (A1 ++ B1) := fun h => by
          rcases h with h | h
          · obtain rfl : A1 = [] := List.length_eq_zero_iff.1 (by omega)
            exact pB1
          · obtain rfl : B1 = [] := List.length_eq_zero_iff.1 (by omega)
            rw [List.append_nil]; exact pA1
        have sR : s = m ∨ e = b → Srt (A2 ++ B2) := fun h => by
          rcases h with h | h
          · obtain rfl : A2 = [] := List.length_eq_zero_iff.1 (by omega)
            exact pB2
          · obtain rfl : B2 = [] := List.length_eq_zero_iff.1 (by omega)
            rw [List.append_nil]; exact pA2
        have DONE : Aside0 (∀ L R, Stb (A1 ++ B1) L → Stb (A2 ++ B2) R → Stb (A ++ B) (L ++ R)) := ⟨fun L R hL hR => by rw [hA12, hB12]; exact stb_four nzB1 hsA hsB hL hR K1 K2⟩
        have HW : Win w0 blk pre post (X ++ (A1 ++ (A2 ++ (B1 ++ (B2 ++ Y))))) wr := by have := S1.out; rw [hA12, hB12] at this; simpa using this
        have hnl : n = X.length + (A1.length + (A2.length + (B1.length + (B2.length + Y.length)))) := by rw [HF.out, hA12, hB12]; simp only [List.length_append]; omega
        have HRot : Aside0 (s < m → m < e → ∀ W : World, Win w0 blk pre post (X ++ (A1 ++ (A2 ++ (B1 ++ (B2 ++ Y))))) W → Calls Tryd.prog 74 #[.slice (some ⟨blk, o, none⟩) n cap, .int .i64 (s : Int), .int .i64 (m : Int), .int .i64 (e : Int), .func (.func 25) #[] #[]] W fun e w' => e = .returned (.tuple #[]) ∧ Win w0 blk pre post (X ++ (A1 ++ (B1 ++ (A2 ++ (B2 ++ Y))))) w') := ⟨fun h1 h2 W hW => by
          have hl : ((X ++ A1) ++ (A2 ++ (B1 ++ (B2 ++ Y)))).length = n := by simp only [List.length_append]; omega
          have := rotate_any w0 blk cap pre post (X ++ A1) A2 B1 (B2 ++ Y) (.func (.func 25) #[] #[]) (by omega) (by omega) (by rw [hl]; exact hn) W (by simpa using hW)
          rw [hl, HO.out, show (X ++ A1).length = s by rw [List.length_append]; omega, show s + A2.length = m by omega, show m + B1.length = e by omega] at this
          simpa using this⟩
        have HLft : Aside0 (a < s → s < mid → ∀ W : World, Win w0 blk pre post (X ++ (A1 ++ (B1 ++ (A2 ++ (B2 ++ Y))))) W → Calls Tryd.prog 63 #[.slice (some ⟨blk, o, none⟩) n cap, .int .i64 (a : Int), .int .i64 (s : Int), .int .i64 (mid : Int), .func (.func 25) #[] #[]] W fun e w' => e = .returned (.tuple #[]) ∧ ∃ L, Stb (A1 ++ B1) L ∧ Aside0 (Win w0 blk pre post (X ++ (L ++ (A2 ++ (B2 ++ Y)))) w')) := ⟨fun h1 h2 W hW => by
          have hl : (X ++ (A1 ++ (B1 ++ (A2 ++ (B2 ++ Y))))).length = n := by simp only [List.length_append]; omega
          have := IH.out w0 blk cap pre post X A1 B1 (A2 ++ (B2 ++ Y)) (by have := HN.out; omega) (by omega) (by omega) nzL pA1 pB1 (by rw [hl]; exact hn) W hW
          rw [hl, HO.out, hA, show a + A1.length = s by omega, show s + B1.length = mid by omega] at this
          exact this.mono fun _ _ ⟨q1, L, q2, q3⟩ => ⟨q1, L, q2, ⟨q3⟩⟩⟩
        have HRgt : Aside0 (mid < e → e < b → ∀ (L : List Int), L.length = A1.length + B1.length → ∀ W : World, Win w0 blk pre post (X ++ (L ++ (A2 ++ (B2 ++ Y)))) W → Calls Tryd.prog 63 #[.slice (some ⟨blk, o, none⟩) n cap, .int .i64 (mid : Int), .int .i64 (e : Int), .int .i64 (b : Int), .func (.func 25) #[] #[]] W fun e w' => e = .returned (.tuple #[]) ∧ ∃ R, Stb (A2 ++ B2) R ∧ Aside0 (Win w0 blk pre post (X ++ (L ++ (R ++ Y))) w')) := ⟨fun h1 h2 L hL W hW => by
          have hl : ((X ++ L) ++ (A2 ++ (B2 ++ Y))).length = n := by simp only [List.length_append]; omega
          have := IH.out w0 blk cap pre post (X ++ L) A2 B2 Y (by have := HN.out; omega) (by omega) (by omega) nzR pA2 pB2 (by rw [hl]; exact hn) W (by simpa using hW)
          rw [hl, HO.out, show (X ++ L).length = mid by rw [List.length_append]; omega, show mid + A2.length = e by omega, show e + B2.length = b by omega] at this
          exact this.mono fun _ _ ⟨q1, R, q2, q3⟩ => ⟨q1, R, q2, ⟨by simpa using q3⟩⟩⟩
        have HNR : Aside0 (s = m ∨ s = mid → Win w0 blk pre post (X ++ (A1 ++ (B1 ++ (A2 ++ (B2 ++ Y))))) wr) := ⟨fun h => by
          rcases h with h | h
          · obtain rfl : A2 = [] := List.length_eq_zero_iff.1 (by omega)
            exact HW
          · obtain rfl : B1 = [] := List.length_eq_zero_iff.1 (by omega)
            exact HW⟩
        have LL : Aside0 ((A1 ++ B1).length = A1.length + B1.length) := ⟨List.length_append⟩
        have SL := Aside0.mk sL
        have SR := Aside0.mk sR
        have HE := Aside0.mk he
        replace HW := Aside0.mk HW
        have hm2 : s ≤ mid := by omega
        have hm3 : e ≤ b := by omega
        clear sL sR K1 K2 pA1 pA2 pA3 pB1 pB2 pB3 hsA hsB hz nzB1 nzL nzR hA hM hB hH hP hA1 hA2 hB1 hB2 hA12 hB12 hnl he S1 H1 H2 HZ HSA HSB HN hij IH HF HNN
        by_cases k : s < m
        · by_cases k : s < mid
          · by_cases k : a < s
            · by_cases k : e < b
              · have i1 : s < m := by assumption
                have i2 : m < e := by have := HE.out; omega
                have i3 : a < s := by omega
                have i4 : s < mid := by omega
                have i5 : mid < e := by have := HE.out; omega
                have i6 : e < b := by omega
                replace HRot := Aside0.mk (HRot.out i1 i2)
                replace HLft := Aside0.mk (HLft.out i3 i4)
                replace HRgt := Aside0.mk (HRgt.out i5 i6)
                clear HNR SL SR
                go_wp2_with (first | simp only [hez] | (go_at_call 74; (with_reducible refine (HRot.out _ HW.out).mono ?_); rintro e w' ⟨rfl, hw⟩; replace HW := Aside0.mk hw; clear hw) | (go_at_call 63; (with_reducible refine (HLft.out _ HW.out).mono ?_); rintro e w' ⟨rfl, L, hL, hw⟩; replace HW := hw; clear hw; replace LL := Aside0.mk (hL.len.trans LL.out); replace hL := Aside0.mk hL) | (go_at_call 63; (with_reducible refine (HRgt.out _ LL.out _ (by first | exact HW.out | (have := HW.out; simpa using this))).mono ?_); rintro e w' ⟨rfl, R, hR, hw⟩; replace HW := hw; clear hw; replace hR := Aside0.mk hR))
                go_end0
                exact ⟨rfl, _, DONE.out _ _ hL.out hR.out, by have := HW.out; simpa using this⟩
              · have i1 : s < m := by assumption
                have i2 : m < e := by have := HE.out; omega
                have i3 : a < s := by omega
                have i4 : s < mid := by omega
                have i5 : mid < e := by have := HE.out; omega
                have i6 : ¬ e < b := by omega
                replace HRot := Aside0.mk (HRot.out i1 i2)
                replace HLft := Aside0.mk (HLft.out i3 i4)
                have hR := Aside0.mk (Stb.refl (SR.out (by omega)))
                clear HNR SL SR HRgt
                go_wp2_with (first | simp only [hez] | (go_at_call 74; (with_reducible refine (HRot.out _ HW.out).mono ?_); rintro e w' ⟨rfl, hw⟩; replace HW := Aside0.mk hw; clear hw) | (go_at_call 63; (with_reducible refine (HLft.out _ HW.out).mono ?_); rintro e w' ⟨rfl, L, hL, hw⟩; replace HW := hw; clear hw; replace LL := Aside0.mk (hL.len.trans LL.out); replace hL := Aside0.mk hL))
                go_end0
                exact ⟨rfl, _, DONE.out _ _ hL.out hR.out, by have := HW.out; simpa using this⟩
            · by_cases k : e < b
              · have i1 : s < m := by assumption
                have i2 : m < e := by have := HE.out; omega
                have i3 : ¬ a < s := by omega
                have i4 : s < mid := by omega
                have i5 : mid < e := by have := HE.out; omega
                have i6 : e < b := by omega
                replace HRot := Aside0.mk (HRot.out i1 i2)
                have hL := Aside0.mk (Stb.refl (SL.out (by omega)))
                replace HRgt := Aside0.mk (HRgt.out i5 i6)
                clear HNR SL SR HLft
                go_wp2_with (first | simp only [hez] | (go_at_call 74; (with_reducible refine (HRot.out _ HW.out).mono ?_); rintro e w' ⟨rfl, hw⟩; replace HW := Aside0.mk hw; clear hw) | (go_at_call 63; (with_reducible refine (HRgt.out _ LL.out _ (by first | exact HW.out | (have := HW.out; simpa using this))).mono ?_); rintro e w' ⟨rfl, R, hR, hw⟩; replace HW := hw; clear hw; replace hR := Aside0.mk hR))
                go_end0
                exact ⟨rfl, _, DONE.out _ _ hL.out hR.out, by have := HW.out; simpa using this⟩
              · have i1 : s < m := by assumption
                have i2 : m < e := by have := HE.out; omega
                have i3 : ¬ a < s := by omega
                have i4 : s < mid := by omega
                have i5 : mid < e := by have := HE.out; omega
                have i6 : ¬ e < b := by omega
                replace HRot := Aside0.mk (HRot.out i1 i2)
                have hL := Aside0.mk (Stb.refl (SL.out (by omega)))
                have hR := Aside0.mk (Stb.refl (SR.out (by omega)))
                clear HNR SL SR HLft HRgt
                go_wp2_with (first | simp only [hez] | (go_at_call 74; (with_reducible refine (HRot.out _ HW.out).mono ?_); rintro e w' ⟨rfl, hw⟩; replace HW := Aside0.mk hw; clear hw))
                go_end0
                exact ⟨rfl, _, DONE.out _ _ hL.out hR.out, by have := HW.out; simpa using this⟩
          · by_cases k : a < s
            · by_cases k : e < b
              · have i1 : s < m := by assumption
                have i2 : ¬ m < e := by have := HE.out; omega
                have i3 : a < s := by omega
                have i4 : ¬ s < mid := by omega
                have i5 : mid < e := by have := HE.out; omega
                have i6 : e < b := by omega
                replace HW := Aside0.mk (HNR.out (by omega))
                have hL := Aside0.mk (Stb.refl (SL.out (by omega)))
                replace HW : Aside0 (Win w0 blk pre post (X ++ ((A1 ++ B1) ++ (A2 ++ (B2 ++ Y)))) _) := ⟨by have := HW.out; simpa using this⟩
                replace HRgt := Aside0.mk (HRgt.out i5 i6)
                clear HNR SL SR HRot HLft
                go_wp2_with (first | simp only [hez] | (go_at_call 63; (with_reducible refine (HRgt.out _ LL.out _ (by first | exact HW.out | (have := HW.out; simpa using this))).mono ?_); rintro e w' ⟨rfl, R, hR, hw⟩; replace HW := hw; clear hw; replace hR := Aside0.mk hR))
                go_end0
                exact ⟨rfl, _, DONE.out _ _ hL.out hR.out, by have := HW.out; simpa using this⟩
              · have i1 : s < m := by assumption
                have i2 : ¬ m < e := by have := HE.out; omega
                have i3 : a < s := by omega
                have i4 : ¬ s < mid := by omega
                have i5 : mid < e := by have := HE.out; omega
                have i6 : ¬ e < b := by omega
                replace HW := Aside0.mk (HNR.out (by omega))
                have hL := Aside0.mk (Stb.refl (SL.out (by omega)))
                replace HW : Aside0 (Win w0 blk pre post (X ++ ((A1 ++ B1) ++ (A2 ++ (B2 ++ Y)))) _) := ⟨by have := HW.out; simpa using this⟩
                have hR := Aside0.mk (Stb.refl (SR.out (by omega)))
                clear HNR SL SR HRot HLft HRgt
                go_wp2_with (first | simp only [hez])
                go_end0
                exact ⟨rfl, _, DONE.out _ _ hL.out hR.out, by have := HW.out; simpa using this⟩
            · by_cases k : e < b
              · have i1 : s < m := by assumption
                have i2 : ¬ m < e := by have := HE.out; omega
                have i3 : ¬ a < s := by omega
                have i4 : ¬ s < mid := by omega
                have i5 : mid < e := by have := HE.out; omega
                have i6 : e < b := by omega
                replace HW := Aside0.mk (HNR.out (by omega))
                have hL := Aside0.mk (Stb.refl (SL.out (by omega)))
                replace HW : Aside0 (Win w0 blk pre post (X ++ ((A1 ++ B1) ++ (A2 ++ (B2 ++ Y)))) _) := ⟨by have := HW.out; simpa using this⟩
                replace HRgt := Aside0.mk (HRgt.out i5 i6)
                clear HNR SL SR HRot HLft
                go_wp2_with (first | simp only [hez] | (go_at_call 63; (with_reducible refine (HRgt.out _ LL.out _ (by first | exact HW.out | (have := HW.out; simpa using this))).mono ?_); rintro e w' ⟨rfl, R, hR, hw⟩; replace HW := hw; clear hw; replace hR := Aside0.mk hR))
                go_end0
                exact ⟨rfl, _, DONE.out _ _ hL.out hR.out, by have := HW.out; simpa using this⟩
              · have i1 : s < m := by assumption
                have i2 : ¬ m < e := by have := HE.out; omega
                have i3 : ¬ a < s := by omega
                have i4 : ¬ s < mid := by omega
                have i5 : mid < e := by have := HE.out; omega
                have i6 : ¬ e < b := by omega
                replace HW := Aside0.mk (HNR.out (by omega))
                have hL := Aside0.mk (Stb.refl (SL.out (by omega)))
                replace HW : Aside0 (Win w0 blk pre post (X ++ ((A1 ++ B1) ++ (A2 ++ (B2 ++ Y)))) _) := ⟨by have := HW.out; simpa using this⟩
                have hR := Aside0.mk (Stb.refl (SR.out (by omega)))
                clear HNR SL SR HRot HLft HRgt
                go_wp2_with (first | simp only [hez])
                go_end0
                exact ⟨rfl, _, DONE.out _ _ hL.out hR.out, by have := HW.out; simpa using this⟩
        · by_cases k : s < mid
          · by_cases k : a < s
            · by_cases k : e < b
              · have i1 : ¬ s < m := by omega
                have i2 : m < e := by have := HE.out; omega
                have i3 : a < s := by omega
                have i4 : s < mid := by omega
                have i5 : ¬ mid < e := by have := HE.out; omega
                have i6 : e < b := by omega
                replace HW := Aside0.mk (HNR.out (by omega))
                replace HLft := Aside0.mk (HLft.out i3 i4)
                have hR := Aside0.mk (Stb.refl (SR.out (by omega)))
                clear HNR SL SR HRot HRgt
                go_wp2_with (first | simp only [hez] | (go_at_call 63; (with_reducible refine (HLft.out _ HW.out).mono ?_); rintro e w' ⟨rfl, L, hL, hw⟩; replace HW := hw; clear hw; replace LL := Aside0.mk (hL.len.trans LL.out); replace hL := Aside0.mk hL))
                go_end0
                exact ⟨rfl, _, DONE.out _ _ hL.out hR.out, by have := HW.out; simpa using this⟩
              · have i1 : ¬ s < m := by omega
                have i2 : m < e := by have := HE.out; omega
                have i3 : a < s := by omega
                have i4 : s < mid := by omega
                have i5 : ¬ mid < e := by have := HE.out; omega
                have i6 : ¬ e < b := by omega
                replace HW := Aside0.mk (HNR.out (by omega))
                replace HLft := Aside0.mk (HLft.out i3 i4)
                have hR := Aside0.mk (Stb.refl (SR.out (by omega)))
                clear HNR SL SR HRot HRgt
                go_wp2_with (first | simp only [hez] | (go_at_call 63; (with_reducible refine (HLft.out _ HW.out).mono ?_); rintro e w' ⟨rfl, L, hL, hw⟩; replace HW := hw; clear hw; replace LL := Aside0.mk (hL.len.trans LL.out); replace hL := Aside0.mk hL))
                go_end0
                exact ⟨rfl, _, DONE.out _ _ hL.out hR.out, by have := HW.out; simpa using this⟩
            · by_cases k : e < b
              · have i1 : ¬ s < m := by omega
                have i2 : m < e := by have := HE.out; omega
                have i3 : ¬ a < s := by omega
                have i4 : s < mid := by omega
                have i5 : ¬ mid < e := by have := HE.out; omega
                have i6 : e < b := by omega
                replace HW := Aside0.mk (HNR.out (by omega))
                have hL := Aside0.mk (Stb.refl (SL.out (by omega)))
                replace HW : Aside0 (Win w0 blk pre post (X ++ ((A1 ++ B1) ++ (A2 ++ (B2 ++ Y)))) _) := ⟨by have := HW.out; simpa using this⟩
                have hR := Aside0.mk (Stb.refl (SR.out (by omega)))
                clear HNR SL SR HRot HLft HRgt
                go_wp2_with (first | simp only [hez])
                go_end0
                exact ⟨rfl, _, DONE.out _ _ hL.out hR.out, by have := HW.out; simpa using this⟩
              · have i1 : ¬ s < m := by omega
                have i2 : m < e := by have := HE.out; omega
                have i3 : ¬ a < s := by omega
                have i4 : s < mid := by omega
                have i5 : ¬ mid < e := by have := HE.out; omega
                have i6 : ¬ e < b := by omega
                replace HW := Aside0.mk (HNR.out (by omega))
                have hL := Aside0.mk (Stb.refl (SL.out (by omega)))
                replace HW : Aside0 (Win w0 blk pre post (X ++ ((A1 ++ B1) ++ (A2 ++ (B2 ++ Y)))) _) := ⟨by have := HW.out; simpa using this⟩
                have hR := Aside0.mk (Stb.refl (SR.out (by omega)))
                clear HNR SL SR HRot HLft HRgt
                go_wp2_with (first | simp only [hez])
                go_end0
                exact ⟨rfl, _, DONE.out _ _ hL.out hR.out, by have := HW.out; simpa using this⟩
          · by_cases k : a < s
            · by_cases k : e < b
              · have i1 : ¬ s < m := by omega
                have i2 : ¬ m < e := by have := HE.out; omega
                have i3 : a < s := by omega
                have i4 : ¬ s < mid := by omega
                have i5 : ¬ mid < e := by have := HE.out; omega
                have i6 : e < b := by omega
                replace HW := Aside0.mk (HNR.out (by omega))
                have hL := Aside0.mk (Stb.refl (SL.out (by omega)))
                replace HW : Aside0 (Win w0 blk pre post (X ++ ((A1 ++ B1) ++ (A2 ++ (B2 ++ Y)))) _) := ⟨by have := HW.out; simpa using this⟩
                have hR := Aside0.mk (Stb.refl (SR.out (by omega)))
                clear HNR SL SR HRot HLft HRgt
                go_wp2_with (first | simp only [hez])
                go_end0
                exact ⟨rfl, _, DONE.out _ _ hL.out hR.out, by have := HW.out; simpa using this⟩
              · have i1 : ¬ s < m := by omega
                have i2 : ¬ m < e := by have := HE.out; omega
                have i3 : a < s := by omega
                have i4 : ¬ s < mid := by omega
                have i5 : ¬ mid < e := by have := HE.out; omega
                have i6 : ¬ e < b := by omega
                replace HW := Aside0.mk (HNR.out (by omega))
                have hL := Aside0.mk (Stb.refl (SL.out (by omega)))
                replace HW : Aside0 (Win w0 blk pre post (X ++ ((A1 ++ B1) ++ (A2 ++ (B2 ++ Y)))) _) := ⟨by have := HW.out; simpa using this⟩
                have hR := Aside0.mk (Stb.refl (SR.out (by omega)))
                clear HNR SL SR HRot HLft HRgt
                go_wp2_with (first | simp only [hez])
                go_end0
                exact ⟨rfl, _, DONE.out _ _ hL.out hR.out, by have := HW.out; simpa using this⟩
            · by_cases k : e < b
              · have i1 : ¬ s < m := by omega
                have i2 : ¬ m < e := by have := HE.out; omega
                have i3 : ¬ a < s := by omega
                have i4 : ¬ s < mid := by omega
                have i5 : ¬ mid < e := by have := HE.out; omega
                have i6 : e < b := by omega
                replace HW := Aside0.mk (HNR.out (by omega))
                have hL := Aside0.mk (Stb.refl (SL.out (by omega)))
                replace HW : Aside0 (Win w0 blk pre post (X ++ ((A1 ++ B1) ++ (A2 ++ (B2 ++ Y)))) _) := ⟨by have := HW.out; simpa using this⟩
                have hR := Aside0.mk (Stb.refl (SR.out (by omega)))
                clear HNR SL SR HRot HLft HRgt
                go_wp2_with (first | simp only [hez])
                go_end0
                exact ⟨rfl, _, DONE.out _ _ hL.out hR.out, by have := HW.out; simpa using this⟩
              · have i1 : ¬ s < m := by omega
                have i2 : ¬ m < e := by have := HE.out; omega
                have i3 : ¬ a < s := by omega
                have i4 : ¬ s < mid := by omega
                have i5 : ¬ mid < e := by have := HE.out; omega
                have i6 : ¬ e < b := by omega
                replace HW := Aside0.mk (HNR.out (by omega))
                have hL := Aside0.mk (Stb.refl (SL.out (by omega)))
                replace HW : Aside0 (Win w0 blk pre post (X ++ ((A1 ++ B1) ++ (A2 ++ (B2 ++ Y)))) _) := ⟨by have := HW.out; simpa using this⟩
                have hR := Aside0.mk (Stb.refl (SR.out (by omega)))
                clear HNR SL SR HRot HLft HRgt
                go_wp2_with (first | simp only [hez])
                go_end0
                exact ⟨rfl, _, DONE.out _ _ hL.out hR.out, by have := HW.out; simpa using this⟩
  · go_upto_region 32 with (fail)
    obtain rfl : a = s0 := by have := q0.out; omega
    obtain rfl : m = r0 := by have := q0.out; omega
    clear q0 hs0
    go_wp2_with (simp only [hpz])
    clear hpz hc
    go_loopw [20, 21] (fun vi vj wr => ∃ s r : Nat, vi = .int .i64 s ∧ vj = .int .i64 r ∧ Srch a m (fun s => ∀ k j x y, k + a + 1 = s → j + m + s = mid + m → A[k]? = some x → B[j]? = some y → clsU x ≤ clsU y) (fun r => ∀ k j x y, k + a = r → j + m + r + 1 = mid + m → A[k]? = some x → B[j]? = some y → clsU y < clsU x) (Win w0 blk pre post (X ++ (A ++ (B ++ Y)))) s r wr) (fun vi vj _ => (intOf vj).toNat - (intOf vi).toNat)
    case atStart => exact ⟨a, m, by rfl, by rfl, ⟨Nat.le_refl _, q3, Nat.le_refl _, F0.out, G0.out, S0.out⟩⟩
    case round =>
      clear S0 F0 G0
      obtain ⟨s, r, rfl, rfl, ⟨h1, h2, h3, H1, H2, S1⟩⟩ := hrel
      replace H1 := Aside0.mk H1
      replace H2 := Aside0.mk H2
      replace S1 := Aside0.mk S1
      by_cases hij : s < r
      · go_wp2_with fail
        obtain ⟨c, hh⟩ : ∃ c : Nat, c = (s + r) / 2 := ⟨_, rfl⟩
        have hhz : ((s : Int) + (r : Int)) / 2 = (c : Int) := by omega
        rw [hhz]
        have h4 : s ≤ c := by omega
        have h5 : c < r := by omega
        obtain ⟨q, hq⟩ : ∃ q, q + c = p := ⟨p - c, by have := hpn.out; omega⟩
        have h6 : m ≤ q := by have := hpn.out; omega
        have h7 : q < b := by have := hpn.out; omega
        obtain ⟨x, hx⟩ : ∃ x, A[c - a]? = some x := ⟨_, List.getElem?_eq_getElem (by have := HM.out; omega)⟩
        obtain ⟨y, hy⟩ : ∃ y, B[q - m]? = some y := ⟨_, List.getElem?_eq_getElem (by have := HB.out; omega)⟩
        have c2 : wr.cell? ⟨blk, o + c, none⟩ = some (.int .i32 x) := by
          rw [← HO.out]
          refine S1.out.cell ?_
          have hA := HA.out
          rw [List.getElem?_append_right (by omega), show c - X.length = c - a by omega, List.getElem?_append_left (List.getElem?_eq_some_iff.1 hx).1]
          exact hx
        have c1 : wr.cell? ⟨blk, o + (p - c), none⟩ = some (.int .i32 y) := by
          rw [show p - c = q by omega, ← HO.out]
          refine S1.out.cell ?_
          have hA := HA.out
          have hM := HM.out
          rw [List.getElem?_append_right (by omega), List.getElem?_append_right (by omega), show q - X.length - A.length = q - m by omega, List.getElem?_append_left (List.getElem?_eq_some_iff.1 hy).1]
          exact hy
        have e1 : (c : Int) < (n : Int) := by omega
        have e2 : (q : Int) < (n : Int) := by omega
        have hpq : (p : Int) - (c : Int) = (q : Int) := by omega
        have r2 : (0 : Int) ≤ (p : Int) - (c : Int) := by omega
        have r3 : (p : Int) - (c : Int) < (n : Int) := by omega
        have r4 : ((p : Int) - (c : Int)).toNat = p - c := by omega
        have r5 : c ≤ p := by omega
        have r6 : (c : Int) ≤ (p : Int) := by omega
        have r7 : (p : Int) < (n : Int) + (c : Int) := by omega
        have r8 : p - c < n := by omega
        have r1 : IntKind.i64.wrap ((p : Int) - (c : Int)) = (p : Int) - (c : Int) := by rw [IntKind.wrap_i64]; omega
        clear hpq
        have HQ := Aside0.mk hq
        clear hhz hh hq
        by_cases hc : clsU y < clsU x
        · have hcf2 : cfO y x < 0 := (cfO_lt y x).2 hc
          have hcf : decide (cfO y x < 0) = true := decide_eq_true hcf2
          have H2' : Aside0 (∀ k j x y, k + a = c → j + m + c + 1 = mid + m → A[k]? = some x → B[j]? = some y → clsU y < clsU x) := ⟨fun k j x' y' hk hj hx' hy' => by
            obtain rfl : k = c - a := by omega
            obtain rfl : j = q - m := by have := hpn.out; have := HQ.out; omega
            rw [hx] at hx'
            rw [hy] at hy'
            obtain rfl := Option.some.inj hx'
            obtain rfl := Option.some.inj hy'
            exact hc⟩
          clear hc H2 hx hy HQ
          go_region_held3 (fun w' => w'.cell? ⟨blk, o + (p - c), none⟩ = some (.int .i32 y) ∧ w'.cell? ⟨blk, o + c, none⟩ = some (.int .i32 x) ∧ RS wr ⟨blk, o + (p - c), none⟩ ⟨blk, o + c, none⟩ y x w') (first | exact RS.facts (RS.start c1 c2) | exact RS.facts (by assumption)) (first | (go_at_call 25; (with_reducible refine (ordcmp _ _ _).mono ?_); rintro e w9 ⟨rfl, hb9⟩; have hx9 := RS.keep (RS.of (by assumption)) hb9))
          replace S1 := Aside0.mk (S1.out.below hx9.bel)
          clear hx9 hb9 c1 c2
          go_wp2_with fail
          go_roundw
          case rel => exact ⟨s, c, rfl, rfl, ⟨by omega, by omega, by omega, H1.out, H2'.out, S1.out⟩⟩
          case measure => simp [intOf]; omega
        · have hcf2 : ¬ cfO y x < 0 := fun h => hc ((cfO_lt y x).1 h)
          have hcf : decide (cfO y x < 0) = false := decide_eq_false hcf2
          have H1' : Aside0 (∀ k j x y, k + a + 1 = c + 1 → j + m + (c + 1) = mid + m → A[k]? = some x → B[j]? = some y → clsU x ≤ clsU y) := ⟨fun k j x' y' hk hj hx' hy' => by
            obtain rfl : k = c - a := by omega
            obtain rfl : j = q - m := by have := hpn.out; have := HQ.out; omega
            rw [hx] at hx'
            rw [hy] at hy'
            obtain rfl := Option.some.inj hx'
            obtain rfl := Option.some.inj hy'
            exact Int.not_lt.1 hc⟩
          clear hc H1 hx hy HQ
          go_region_held3 (fun w' => w'.cell? ⟨blk, o + (p - c), none⟩ = some (.int .i32 y) ∧ w'.cell? ⟨blk, o + c, none⟩ = some (.int .i32 x) ∧ RS wr ⟨blk, o + (p - c), none⟩ ⟨blk, o + c, none⟩ y x w') (first | exact RS.facts (RS.start c1 c2) | exact RS.facts (by assumption)) (first | (go_at_call 25; (with_reducible refine (ordcmp _ _ _).mono ?_); rintro e w9 ⟨rfl, hb9⟩; have hx9 := RS.keep (RS.of (by assumption)) hb9))
          replace S1 := Aside0.mk (S1.out.below hx9.bel)
          clear hx9 hb9 c1 c2
          go_wp2_with fail
          go_roundw
          case rel => exact ⟨c + 1, r, by go_num, rfl, ⟨by omega, by omega, by omega, H1'.out, H2.out, S1.out⟩⟩
          case measure => simp [intOf]; omega
      · obtain rfl : s = r := by omega
        have hA := HA.out
        have hM := HM.out
        have hB := HB.out
        have hH := HH.out
        have hP := hpn.out
        obtain ⟨e, he⟩ : ∃ e, e + s = mid + m := ⟨mid + m - s, by omega⟩
        have hez : (mid : Int) + (m : Int) - (s : Int) = (e : Int) := by omega
        obtain ⟨A1, A2, hA12, hA1⟩ : ∃ A1 A2, A = A1 ++ A2 ∧ A1.length = s - a := ⟨A.take (s - a), A.drop (s - a), (List.take_append_drop _ _).symm, by rw [List.length_take]; omega⟩
        obtain ⟨B1, B2, hB12, hB1⟩ : ∃ B1 B2, B = B1 ++ B2 ∧ B1.length = e - m := ⟨B.take (e - m), B.drop (e - m), (List.take_append_drop _ _).symm, by rw [List.length_take]; omega⟩
        have hA2 : A2.length = m - s := by have : A.length = A1.length + A2.length := by rw [hA12, List.length_append]
                                           omega
        have hB2 : B2.length = b - e := by have : B.length = B1.length + B2.length := by rw [hB12, List.length_append]
                                           omega
        have hsA := HSA.out
        have hsB := HSB.out
        have hz := HZ.out
        rw [hA12] at hsA
        rw [hB12] at hsB
        obtain ⟨pA1, pA2, pA3⟩ := List.pairwise_append.1 hsA
        obtain ⟨pB1, pB2, pB3⟩ := List.pairwise_append.1 hsB
        have K1 : ∀ x ∈ A2, ∀ y ∈ B1, clsU y < clsU x := fun x hx y hy => by
          have l2 := List.length_pos_of_mem hx
          have l1 := List.length_pos_of_mem hy
          obtain ⟨u, hu⟩ : ∃ u, A2[0]? = some u := ⟨_, List.getElem?_eq_getElem l2⟩
          obtain ⟨v, hv⟩ : ∃ v, B1[B1.length - 1]? = some v := ⟨_, List.getElem?_eq_getElem (by omega)⟩
          obtain ⟨k, hk⟩ := List.getElem?_of_mem hx
          obtain ⟨j, hj⟩ := List.getElem?_of_mem hy
          have hjl := (List.getElem?_eq_some_iff.1 hj).1
          have e1 : clsU u ≤ clsU x := Srt.le (i := 0) (j := k) pA2 (by omega) hu hk
          have e2 : clsU y ≤ clsU v := Srt.le (i := j) (j := B1.length - 1) pB1 (by omega) hj hv
          have hu2 : A[A1.length]? = some u := by rw [hA12, List.getElem?_append_right (Nat.le_refl _), Nat.sub_self]; exact hu
          have hv2 : B[B1.length - 1]? = some v := by rw [hB12, List.getElem?_append_left (by omega)]; exact hv
          have := H2.out A1.length (B1.length - 1) u v (by omega) (by omega) hu2 hv2
          omega
        have K2 : ∀ x ∈ A1, ∀ y ∈ B2, clsU x ≤ clsU y := fun x hx y hy => by
          have l2 := List.length_pos_of_mem hx
          have l1 := List.length_pos_of_mem hy
          obtain ⟨u, hu⟩ : ∃ u, A1[A1.length - 1]? = some u := ⟨_, List.getElem?_eq_getElem (by omega)⟩
          obtain ⟨v, hv⟩ : ∃ v, B2[0]? = some v := ⟨_, List.getElem?_eq_getElem l1⟩
          obtain ⟨k, hk⟩ := List.getElem?_of_mem hx
          obtain ⟨j, hj⟩ := List.getElem?_of_mem hy
          have hkl := (List.getElem?_eq_some_iff.1 hk).1
          have e1 : clsU x ≤ clsU u := Srt.le (i := k) (j := A1.length - 1) pA1 (by omega) hk hu
          have e2 : clsU v ≤ clsU y := Srt.le (i := 0) (j := j) pB2 (by omega) hv hj
          have hu2 : A[A1.length - 1]? = some u := by rw [hA12, List.getElem?_append_left (by omega)]; exact hu
          have hv2 : B[B1.length]? = some v := by rw [hB12, List.getElem?_append_right (Nat.le_refl _), Nat.sub_self]; exact hv
          have := H1.out (A1.length - 1) B1.length u v (by omega) (by omega) hu2 hv2
          omega
        have nzB1 : Nz B1 := fun x hx => hz x (by rw [hB12]; simp [hx])
        have nzL : Nz (A1 ++ B1) := fun x hx => hz x (by rw [hA12, hB12]; rcases List.mem_append.1 hx with h | h <;> simp [h])
        have nzR : Nz (A2 ++ B2) := fun x hx => hz x (by rw [hA12, hB12]; rcases List.mem_append.1 hx with h | h <;> simp [h])
        have sL : s = a ∨ s = mid → Srt (A1 ++ B1) := fun h => by
          rcases h with h | h
          · obtain rfl : A1 = [] := List.length_eq_zero_iff.1 (by omega)
            exact pB1
          · obtain rfl : B1 = [] := List.length_eq_zero_iff.1 (by omega)
            rw [List.append_nil]; exact pA1
        have sR : s = m ∨ e = b → Srt (A2 ++ B2) := fun h => by
          rcases h with h | h
          · obtain rfl : A2 = [] := List.length_eq_zero_iff.1 (by omega)
            exact pB2
          · obtain rfl : B2 = [] := List.length_eq_zero_iff.1 (by omega)
            rw [List.append_nil]; exact pA2
        have DONE : Aside0 (∀ L R, Stb (A1 ++ B1) L → Stb (A2 ++ B2) R → Stb (A ++ B) (L ++ R)) := ⟨fun L R hL hR => by rw [hA12, hB12]; exact stb_four nzB1 hsA hsB hL hR K1 K2⟩
        have HW : Win w0 blk pre post (X ++ (A1 ++ (A2 ++ (B1 ++ (B2 ++ Y))))) wr := by have := S1.out; rw [hA12, hB12] at this; simpa using this
        have hnl : n = X.length + (A1.length + (A2.length + (B1.length + (B2.length + Y.length)))) := by rw [HF.out, hA12, hB12]; simp only [List.length_append]; omega
        have HRot : Aside0 (s < m → m < e → ∀ W : World, Win w0 blk pre post (X ++ (A1 ++ (A2 ++ (B1 ++ (B2 ++ Y))))) W → Calls Tryd.prog 74 #[.slice (some ⟨blk, o, none⟩) n cap, .int .i64 (s : Int), .int .i64 (m : Int), .int .i64 (e : Int), .func (.func 25) #[] #[]] W fun e w' => e = .returned (.tuple #[]) ∧ Win w0 blk pre post (X ++ (A1 ++ (B1 ++ (A2 ++ (B2 ++ Y))))) w') := ⟨fun h1 h2 W hW => by
          have hl : ((X ++ A1) ++ (A2 ++ (B1 ++ (B2 ++ Y)))).length = n := by simp only [List.length_append]; omega
          have := rotate_any w0 blk cap pre post (X ++ A1) A2 B1 (B2 ++ Y) (.func (.func 25) #[] #[]) (by omega) (by omega) (by rw [hl]; exact hn) W (by simpa using hW)
          rw [hl, HO.out, show (X ++ A1).length = s by rw [List.length_append]; omega, show s + A2.length = m by omega, show m + B1.length = e by omega] at this
          simpa using this⟩
        have HLft : Aside0 (a < s → s < mid → ∀ W : World, Win w0 blk pre post (X ++ (A1 ++ (B1 ++ (A2 ++ (B2 ++ Y))))) W → Calls Tryd.prog 63 #[.slice (some ⟨blk, o, none⟩) n cap, .int .i64 (a : Int), .int .i64 (s : Int), .int .i64 (mid : Int), .func (.func 25) #[] #[]] W fun e w' => e = .returned (.tuple #[]) ∧ ∃ L, Stb (A1 ++ B1) L ∧ Aside0 (Win w0 blk pre post (X ++ (L ++ (A2 ++ (B2 ++ Y)))) w')) := ⟨fun h1 h2 W hW => by
          have hl : (X ++ (A1 ++ (B1 ++ (A2 ++ (B2 ++ Y))))).length = n := by simp only [List.length_append]; omega
          have := IH.out w0 blk cap pre post X A1 B1 (A2 ++ (B2 ++ Y)) (by have := HN.out; omega) (by omega) (by omega) nzL pA1 pB1 (by rw [hl]; exact hn) W hW
          rw [hl, HO.out, hA, show a + A1.length = s by omega, show s + B1.length = mid by omega] at this
          exact this.mono fun _ _ ⟨q1, L, q2, q3⟩ => ⟨q1, L, q2, ⟨q3⟩⟩⟩
        have HRgt : Aside0 (mid < e → e < b → ∀ (L : List Int), L.length = A1.length + B1.length → ∀ W : World, Win w0 blk pre post (X ++ (L ++ (A2 ++ (B2 ++ Y)))) W → Calls Tryd.prog 63 #[.slice (some ⟨blk, o, none⟩) n cap, .int .i64 (mid : Int), .int .i64 (e : Int), .int .i64 (b : Int), .func (.func 25) #[] #[]] W fun e w' => e = .returned (.tuple #[]) ∧ ∃ R, Stb (A2 ++ B2) R ∧ Aside0 (Win w0 blk pre post (X ++ (L ++ (R ++ Y))) w')) := ⟨fun h1 h2 L hL W hW => by
          have hl : ((X ++ L) ++ (A2 ++ (B2 ++ Y))).length = n := by simp only [List.length_append]; omega
          have := IH.out w0 blk cap pre post (X ++ L) A2 B2 Y (by have := HN.out; omega) (by omega) (by omega) nzR pA2 pB2 (by rw [hl]; exact hn) W (by simpa using hW)
          rw [hl, HO.out, show (X ++ L).length = mid by rw [List.length_append]; omega, show mid + A2.length = e by omega, show e + B2.length = b by omega] at this
          exact this.mono fun _ _ ⟨q1, R, q2, q3⟩ => ⟨q1, R, q2, ⟨by simpa using q3⟩⟩⟩
        have HNR : Aside0 (s = m ∨ s = mid → Win w0 blk pre post (X ++ (A1 ++ (B1 ++ (A2 ++ (B2 ++ Y))))) wr) := ⟨fun h => by
          rcases h with h | h
          · obtain rfl : A2 = [] := List.length_eq_zero_iff.1 (by omega)
            exact HW
          · obtain rfl : B1 = [] := List.length_eq_zero_iff.1 (by omega)
            exact HW⟩
        have LL : Aside0 ((A1 ++ B1).length = A1.length + B1.length) := ⟨List.length_append⟩
        have SL := Aside0.mk sL
        have SR := Aside0.mk sR
        have HE := Aside0.mk he
        replace HW := Aside0.mk HW
        have hm2 : s ≤ mid := by omega
        have hm3 : e ≤ b := by omega
        clear sL sR K1 K2 pA1 pA2 pA3 pB1 pB2 pB3 hsA hsB hz nzB1 nzL nzR hA hM hB hH hP hA1 hA2 hB1 hB2 hA12 hB12 hnl he S1 H1 H2 HZ HSA HSB HN hij IH HF HNN
        by_cases k : s < m
        · by_cases k : s < mid
          · by_cases k : a < s
            · by_cases k : e < b
              · have i1 : s < m := by assumption
                have i2 : m < e := by have := HE.out; omega
                have i3 : a < s := by omega
                have i4 : s < mid := by omega
                have i5 : mid < e := by have := HE.out; omega
                have i6 : e < b := by omega
                replace HRot := Aside0.mk (HRot.out i1 i2)
                replace HLft := Aside0.mk (HLft.out i3 i4)
                replace HRgt := Aside0.mk (HRgt.out i5 i6)
                clear HNR SL SR
                go_wp2_with (first | simp only [hez] | (go_at_call 74; (with_reducible refine (HRot.out _ HW.out).mono ?_); rintro e w' ⟨rfl, hw⟩; replace HW := Aside0.mk hw; clear hw) | (go_at_call 63; (with_reducible refine (HLft.out _ HW.out).mono ?_); rintro e w' ⟨rfl, L, hL, hw⟩; replace HW := hw; clear hw; replace LL := Aside0.mk (hL.len.trans LL.out); replace hL := Aside0.mk hL) | (go_at_call 63; (with_reducible refine (HRgt.out _ LL.out _ (by first | exact HW.out | (have := HW.out; simpa using this))).mono ?_); rintro e w' ⟨rfl, R, hR, hw⟩; replace HW := hw; clear hw; replace hR := Aside0.mk hR))
                go_end0
                exact ⟨rfl, _, DONE.out _ _ hL.out hR.out, by have := HW.out; simpa using this⟩
              · have i1 : s < m := by assumption
                have i2 : m < e := by have := HE.out; omega
                have i3 : a < s := by omega
                have i4 : s < mid := by omega
                have i5 : mid < e := by have := HE.out; omega
                have i6 : ¬ e < b := by omega
                replace HRot := Aside0.mk (HRot.out i1 i2)
                replace HLft := Aside0.mk (HLft.out i3 i4)
                have hR := Aside0.mk (Stb.refl (SR.out (by omega)))
                clear HNR SL SR HRgt
                go_wp2_with (first | simp only [hez] | (go_at_call 74; (with_reducible refine (HRot.out _ HW.out).mono ?_); rintro e w' ⟨rfl, hw⟩; replace HW := Aside0.mk hw; clear hw) | (go_at_call 63; (with_reducible refine (HLft.out _ HW.out).mono ?_); rintro e w' ⟨rfl, L, hL, hw⟩; replace HW := hw; clear hw; replace LL := Aside0.mk (hL.len.trans LL.out); replace hL := Aside0.mk hL))
                go_end0
                exact ⟨rfl, _, DONE.out _ _ hL.out hR.out, by have := HW.out; simpa using this⟩
            · by_cases k : e < b
              · have i1 : s < m := by assumption
                have i2 : m < e := by have := HE.out; omega
                have i3 : ¬ a < s := by omega
                have i4 : s < mid := by omega
                have i5 : mid < e := by have := HE.out; omega
                have i6 : e < b := by omega
                replace HRot := Aside0.mk (HRot.out i1 i2)
                have hL := Aside0.mk (Stb.refl (SL.out (by omega)))
                replace HRgt := Aside0.mk (HRgt.out i5 i6)
                clear HNR SL SR HLft
                go_wp2_with (first | simp only [hez] | (go_at_call 74; (with_reducible refine (HRot.out _ HW.out).mono ?_); rintro e w' ⟨rfl, hw⟩; replace HW := Aside0.mk hw; clear hw) | (go_at_call 63; (with_reducible refine (HRgt.out _ LL.out _ (by first | exact HW.out | (have := HW.out; simpa using this))).mono ?_); rintro e w' ⟨rfl, R, hR, hw⟩; replace HW := hw; clear hw; replace hR := Aside0.mk hR))
                go_end0
                exact ⟨rfl, _, DONE.out _ _ hL.out hR.out, by have := HW.out; simpa using this⟩
              · have i1 : s < m := by assumption
                have i2 : m < e := by have := HE.out; omega
                have i3 : ¬ a < s := by omega
                have i4 : s < mid := by omega
                have i5 : mid < e := by have := HE.out; omega
                have i6 : ¬ e < b := by omega
                replace HRot := Aside0.mk (HRot.out i1 i2)
                have hL := Aside0.mk (Stb.refl (SL.out (by omega)))
                have hR := Aside0.mk (Stb.refl (SR.out (by omega)))
                clear HNR SL SR HLft HRgt
                go_wp2_with (first | simp only [hez] | (go_at_call 74; (with_reducible refine (HRot.out _ HW.out).mono ?_); rintro e w' ⟨rfl, hw⟩; replace HW := Aside0.mk hw; clear hw))
                go_end0
                exact ⟨rfl, _, DONE.out _ _ hL.out hR.out, by have := HW.out; simpa using this⟩
          · by_cases k : a < s
            · by_cases k : e < b
              · have i1 : s < m := by assumption
                have i2 : ¬ m < e := by have := HE.out; omega
                have i3 : a < s := by omega
                have i4 : ¬ s < mid := by omega
                have i5 : mid < e := by have := HE.out; omega
                have i6 : e < b := by omega
                replace HW := Aside0.mk (HNR.out (by omega))
                have hL := Aside0.mk (Stb.refl (SL.out (by omega)))
                replace HW : Aside0 (Win w0 blk pre post (X ++ ((A1 ++ B1) ++ (A2 ++ (B2 ++ Y)))) _) := ⟨by have := HW.out; simpa using this⟩
                replace HRgt := Aside0.mk (HRgt.out i5 i6)
                clear HNR SL SR HRot HLft
                go_wp2_with (first | simp only [hez] | (go_at_call 63; (with_reducible refine (HRgt.out _ LL.out _ (by first | exact HW.out | (have := HW.out; simpa using this))).mono ?_); rintro e w' ⟨rfl, R, hR, hw⟩; replace HW := hw; clear hw; replace hR := Aside0.mk hR))
                go_end0
                exact ⟨rfl, _, DONE.out _ _ hL.out hR.out, by have := HW.out; simpa using this⟩
              · have i1 : s < m := by assumption
                have i2 : ¬ m < e := by have := HE.out; omega
                have i3 : a < s := by omega
                have i4 : ¬ s < mid := by omega
                have i5 : mid < e := by have := HE.out; omega
                have i6 : ¬ e < b := by omega
                replace HW := Aside0.mk (HNR.out (by omega))
                have hL := Aside0.mk (Stb.refl (SL.out (by omega)))
                replace HW : Aside0 (Win w0 blk pre post (X ++ ((A1 ++ B1) ++ (A2 ++ (B2 ++ Y)))) _) := ⟨by have := HW.out; simpa using this⟩
                have hR := Aside0.mk (Stb.refl (SR.out (by omega)))
                clear HNR SL SR HRot HLft HRgt
                go_wp2_with (first | simp only [hez])
                go_end0
                exact ⟨rfl, _, DONE.out _ _ hL.out hR.out, by have := HW.out; simpa using this⟩
            · by_cases k : e < b
              · have i1 : s < m := by assumption
                have i2 : ¬ m < e := by have := HE.out; omega
                have i3 : ¬ a < s := by omega
                have i4 : ¬ s < mid := by omega
                have i5 : mid < e := by have := HE.out; omega
                have i6 : e < b := by omega
                replace HW := Aside0.mk (HNR.out (by omega))
                have hL := Aside0.mk (Stb.refl (SL.out (by omega)))
                replace HW : Aside0 (Win w0 blk pre post (X ++ ((A1 ++ B1) ++ (A2 ++ (B2 ++ Y)))) _) := ⟨by have := HW.out; simpa using this⟩
                replace HRgt := Aside0.mk (HRgt.out i5 i6)
                clear HNR SL SR HRot HLft
                go_wp2_with (first | simp only [hez] | (go_at_call 63; (with_reducible refine (HRgt.out _ LL.out _ (by first | exact HW.out | (have := HW.out; simpa using this))).mono ?_); rintro e w' ⟨rfl, R, hR, hw⟩; replace HW := hw; clear hw; replace hR := Aside0.mk hR))
                go_end0
                exact ⟨rfl, _, DONE.out _ _ hL.out hR.out, by have := HW.out; simpa using this⟩
              · have i1 : s < m := by assumption
                have i2 : ¬ m < e := by have := HE.out; omega
                have i3 : ¬ a < s := by omega
                have i4 : ¬ s < mid := by omega
                have i5 : mid < e := by have := HE.out; omega
                have i6 : ¬ e < b := by omega
                replace HW := Aside0.mk (HNR.out (by omega))
                have hL := Aside0.mk (Stb.refl (SL.out (by omega)))
                replace HW : Aside0 (Win w0 blk pre post (X ++ ((A1 ++ B1) ++ (A2 ++ (B2 ++ Y)))) _) := ⟨by have := HW.out; simpa using this⟩
                have hR := Aside0.mk (Stb.refl (SR.out (by omega)))
                clear HNR SL SR HRot HLft HRgt
                go_wp2_with (first | simp only [hez])
                go_end0
                exact ⟨rfl, _, DONE.out _ _ hL.out hR.out, by have := HW.out; simpa using this⟩
        · by_cases k : s < mid
          · by_cases k : a < s
            · by_cases k : e < b
              · have i1 : ¬ s < m := by omega
                have i2 : m < e := by have := HE.out; omega
                have i3 : a < s := by omega
                have i4 : s < mid := by omega
                have i5 : ¬ mid < e := by have := HE.out; omega
                have i6 : e < b := by omega
                replace HW := Aside0.mk (HNR.out (by omega))
                replace HLft := Aside0.mk (HLft.out i3 i4)
                have hR := Aside0.mk (Stb.refl (SR.out (by omega)))
                clear HNR SL SR HRot HRgt
                go_wp2_with (first | simp only [hez] | (go_at_call 63; (with_reducible refine (HLft.out _ HW.out).mono ?_); rintro e w' ⟨rfl, L, hL, hw⟩; replace HW := hw; clear hw; replace LL := Aside0.mk (hL.len.trans LL.out); replace hL := Aside0.mk hL))
                go_end0
                exact ⟨rfl, _, DONE.out _ _ hL.out hR.out, by have := HW.out; simpa using this⟩
              · have i1 : ¬ s < m := by omega
                have i2 : m < e := by have := HE.out; omega
                have i3 : a < s := by omega
                have i4 : s < mid := by omega
                have i5 : ¬ mid < e := by have := HE.out; omega
                have i6 : ¬ e < b := by omega
                replace HW := Aside0.mk (HNR.out (by omega))
                replace HLft := Aside0.mk (HLft.out i3 i4)
                have hR := Aside0.mk (Stb.refl (SR.out (by omega)))
                clear HNR SL SR HRot HRgt
                go_wp2_with (first | simp only [hez] | (go_at_call 63; (with_reducible refine (HLft.out _ HW.out).mono ?_); rintro e w' ⟨rfl, L, hL, hw⟩; replace HW := hw; clear hw; replace LL := Aside0.mk (hL.len.trans LL.out); replace hL := Aside0.mk hL))
                go_end0
                exact ⟨rfl, _, DONE.out _ _ hL.out hR.out, by have := HW.out; simpa using this⟩
            · by_cases k : e < b
              · have i1 : ¬ s < m := by omega
                have i2 : m < e := by have := HE.out; omega
                have i3 : ¬ a < s := by omega
                have i4 : s < mid := by omega
                have i5 : ¬ mid < e := by have := HE.out; omega
                have i6 : e < b := by omega
                replace HW := Aside0.mk (HNR.out (by omega))
                have hL := Aside0.mk (Stb.refl (SL.out (by omega)))
                replace HW : Aside0 (Win w0 blk pre post (X ++ ((A1 ++ B1) ++ (A2 ++ (B2 ++ Y)))) _) := ⟨by have := HW.out; simpa using this⟩
                have hR := Aside0.mk (Stb.refl (SR.out (by omega)))
                clear HNR SL SR HRot HLft HRgt
                go_wp2_with (first | simp only [hez])
                go_end0
                exact ⟨rfl, _, DONE.out _ _ hL.out hR.out, by have := HW.out; simpa using this⟩
              · have i1 : ¬ s < m := by omega
                have i2 : m < e := by have := HE.out; omega
                have i3 : ¬ a < s := by omega
                have i4 : s < mid := by omega
                have i5 : ¬ mid < e := by have := HE.out; omega
                have i6 : ¬ e < b := by omega
                replace HW := Aside0.mk (HNR.out (by omega))
                have hL := Aside0.mk (Stb.refl (SL.out (by omega)))
                replace HW : Aside0 (Win w0 blk pre post (X ++ ((A1 ++ B1) ++ (A2 ++ (B2 ++ Y)))) _) := ⟨by have := HW.out; simpa using this⟩
                have hR := Aside0.mk (Stb.refl (SR.out (by omega)))
                clear HNR SL SR HRot HLft HRgt
                go_wp2_with (first | simp only [hez])
                go_end0
                exact ⟨rfl, _, DONE.out _ _ hL.out hR.out, by have := HW.out; simpa using this⟩
          · by_cases k : a < s
            · by_cases k : e < b
              · have i1 : ¬ s < m := by omega
                have i2 : ¬ m < e := by have := HE.out; omega
                have i3 : a < s := by omega
                have i4 : ¬ s < mid := by omega
                have i5 : ¬ mid < e := by have := HE.out; omega
                have i6 : e < b := by omega
                replace HW := Aside0.mk (HNR.out (by omega))
                have hL := Aside0.mk (Stb.refl (SL.out (by omega)))
                replace HW : Aside0 (Win w0 blk pre post (X ++ ((A1 ++ B1) ++ (A2 ++ (B2 ++ Y)))) _) := ⟨by have := HW.out; simpa using this⟩
                have hR := Aside0.mk (Stb.refl (SR.out (by omega)))
                clear HNR SL SR HRot HLft HRgt
                go_wp2_with (first | simp only [hez])
                go_end0
                exact ⟨rfl, _, DONE.out _ _ hL.out hR.out, by have := HW.out; simpa using this⟩
              · have i1 : ¬ s < m := by omega
                have i2 : ¬ m < e := by have := HE.out; omega
                have i3 : a < s := by omega
                have i4 : ¬ s < mid := by omega
                have i5 : ¬ mid < e := by have := HE.out; omega
                have i6 : ¬ e < b := by omega
                replace HW := Aside0.mk (HNR.out (by omega))
                have hL := Aside0.mk (Stb.refl (SL.out (by omega)))
                replace HW : Aside0 (Win w0 blk pre post (X ++ ((A1 ++ B1) ++ (A2 ++ (B2 ++ Y)))) _) := ⟨by have := HW.out; simpa using this⟩
                have hR := Aside0.mk (Stb.refl (SR.out (by omega)))
                clear HNR SL SR HRot HLft HRgt
                go_wp2_with (first | simp only [hez])
                go_end0
                exact ⟨rfl, _, DONE.out _ _ hL.out hR.out, by have := HW.out; simpa using this⟩
            · by_cases k : e < b
              · have i1 : ¬ s < m := by omega
                have i2 : ¬ m < e := by have := HE.out; omega
                have i3 : ¬ a < s := by omega
                have i4 : ¬ s < mid := by omega
                have i5 : ¬ mid < e := by have := HE.out; omega
                have i6 : e < b := by omega
                replace HW := Aside0.mk (HNR.out (by omega))
                have hL := Aside0.mk (Stb.refl (SL.out (by omega)))
                replace HW : Aside0 (Win w0 blk pre post (X ++ ((A1 ++ B1) ++ (A2 ++ (B2 ++ Y)))) _) := ⟨by have := HW.out; simpa using this⟩
                have hR := Aside0.mk (Stb.refl (SR.out (by omega)))
                clear HNR SL SR HRot HLft HRgt
                go_wp2_with (first | simp only [hez])
                go_end0
                exact ⟨rfl, _, DONE.out _ _ hL.out hR.out, by have := HW.out; simpa using this⟩
              · have i1 : ¬ s < m := by omega
                have i2 : ¬ m < e := by have := HE.out; omega
                have i3 : ¬ a < s := by omega
                have i4 : ¬ s < mid := by omega
                have i5 : ¬ mid < e := by have := HE.out; omega
                have i6 : ¬ e < b := by omega
                replace HW := Aside0.mk (HNR.out (by omega))
                have hL := Aside0.mk (Stb.refl (SL.out (by omega)))
                replace HW : Aside0 (Win w0 blk pre post (X ++ ((A1 ++ B1) ++ (A2 ++ (B2 ++ Y)))) _) := ⟨by have := HW.out; simpa using this⟩
                have hR := Aside0.mk (Stb.refl (SR.out (by omega)))
                clear HNR SL SR HRot HLft HRgt
                go_wp2_with (first | simp only [hez])
                go_end0
                exact ⟨rfl, _, DONE.out _ _ hL.out hR.out, by have := HW.out; simpa using this⟩
end Go.Proofs.YtanpephfnjnfoaaDoor.Pr
end

section
namespace Go.Proofs.YtanpephfnjnfoaaDoor.Pr
open Go.RowKit Go.Proofs.YtanpephfnjnfoaaDoorW.PrintWords Go.Proofs.YtanpephfnjnfoaaDoorW.PrintLast Go.Proofs.YtanpephfnjnfoaaDoorW.PrintMore
set_option linter.unusedVariables false
set_option linter.unusedSimpArgs false

theorem sym_any : ∀ N : Nat, SymAt N
  | 0 => fun w0 blk cap pre post X A B Y hN hA hB => by omega
  | N + 1 => fun w0 blk cap pre post X A B Y hN hA hB hz hsA hsB hn W h => by
    by_cases h1 : A.length = 1
    · obtain ⟨x, rfl⟩ : ∃ x, A = [x] := List.length_eq_one_iff.1 h1
      exact sym_one w0 blk cap pre post X x B Y (fun y hy => hz y (List.mem_append_right _ hy)) hsB hn W h
    · by_cases h2 : B.length = 1
      · obtain ⟨x, rfl⟩ : ∃ x, B = [x] := List.length_eq_one_iff.1 h2
        exact sym_two w0 blk cap pre post X A x Y (by omega) (hz x (by simp)) hsA hn W h
      · exact sym_step N (sym_any N) w0 blk cap pre post X A B Y hN (by omega) (by omega) hz hsA hsB hn W h

def Full (k : Nat) (P : List (List Int)) : Prop := ∀ L ∈ P, L.length = k ∧ Srt L
theorem Full.len {k : Nat} : ∀ {P : List (List Int)}, Full k P → P.flatten.length = P.length * k
  | [], _ => by simp
  | L :: P, h => by
    have := Full.len (P := P) (fun M hM => h M (List.mem_cons_of_mem _ hM))
    rw [List.flatten_cons, List.length_append, this, (h L List.mem_cons_self).1, List.length_cons, Nat.succ_mul, Nat.add_comm]
theorem Full.snoc {k : Nat} {P : List (List Int)} {C : List Int} (h : Full k P) (hl : C.length = k) (hs : Srt C) : Full k (P ++ [C]) := fun L hL => by
  rcases List.mem_append.1 hL with hL | hL
  · exact h L hL
  · obtain rfl := List.mem_singleton.1 hL
    exact ⟨hl, hs⟩
theorem flatten_snoc (P : List (List Int)) (C : List Int) : (P ++ [C]).flatten = P.flatten ++ C := by simp
/-- D is sorted by pieces of k, and is d in another order. -/
structure Chunks (k : Nat) (d D : List Int) : Prop where
  so : So d D
  perm : D.Perm d
  pieces : ∃ P last, D = P.flatten ++ last ∧ Full k P ∧ last.length ≤ k ∧ Srt last
/-- Merging under way: pieces of 2 k ahead, of k behind. -/
structure Mrg (k : Nat) (d : List Int) (P R : List (List Int)) (last : List Int) : Prop where
  so : So d (P.flatten ++ (R.flatten ++ last))
  perm : (P.flatten ++ (R.flatten ++ last)).Perm d
  p : Full (2 * k) P
  r : Full k R
  l : last.length ≤ k
  s : Srt last
theorem Mrg.nz {k : Nat} {d last : List Int} {P R : List (List Int)} (h : Mrg k d P R last) (hz : Nz d) : Nz (R.flatten ++ last) := fun x hx => hz x (h.perm.mem_iff.1 (List.mem_append_right _ hx))
theorem Mrg.len {k : Nat} {d last : List Int} {P R : List (List Int)} (h : Mrg k d P R last) : P.flatten.length + (R.flatten.length + last.length) = d.length := by
  rw [← h.perm.length_eq]; simp
/-- Two whole pieces have been merged. -/
theorem Mrg.two {k : Nat} {d last L M C : List Int} {P R : List (List Int)} (h : Mrg k d P (L :: M :: R) last) (hC : Stb (L ++ M) C) : Mrg k d (P ++ [C]) R last := by
  have hL := (h.r L List.mem_cons_self).1
  have hM := (h.r M (List.mem_cons_of_mem _ List.mem_cons_self)).1
  have e1 : P.flatten ++ ((L :: M :: R).flatten ++ last) = P.flatten ++ ((L ++ M) ++ (R.flatten ++ last)) := by simp
  have e2 : (P ++ [C]).flatten ++ (R.flatten ++ last) = P.flatten ++ (C ++ (R.flatten ++ last)) := by simp
  have h1 := h.so
  have h2 := h.perm
  rw [e1] at h1 h2
  refine ⟨?_, ?_, h.p.snoc (by rw [hC.len, List.length_append]; omega) hC.srt, fun N hN => h.r N (List.mem_cons_of_mem _ (List.mem_cons_of_mem _ hN)), h.l, h.s⟩
  · rw [e2]; exact So.trans h1 (hC.so.app _ _)
  · rw [e2]; exact ((hC.perm.append_right _).append_left _).trans h2
/-- The last two have been merged. -/
theorem Mrg.end2 {k : Nat} {d last L C : List Int} {P : List (List Int)} (h : Mrg k d P [L] last) (hC : Stb (L ++ last) C) : Chunks (2 * k) d (P.flatten ++ C) := by
  have hL := (h.r L List.mem_cons_self).1
  have e1 : P.flatten ++ ([L].flatten ++ last) = P.flatten ++ ((L ++ last) ++ []) := by simp
  have e2 : P.flatten ++ C = P.flatten ++ (C ++ []) := by simp
  have h1 := h.so
  have h2 := h.perm
  have h3 := h.l
  rw [e1] at h1 h2
  refine ⟨?_, ?_, P, C, rfl, h.p, by rw [hC.len, List.length_append]; omega, hC.srt⟩
  · rw [e2]; exact So.trans h1 (hC.so.app _ _)
  · rw [e2]; exact ((hC.perm.append_right _).append_left _).trans h2
theorem Mrg.end2' {k : Nat} {d last L C : List Int} {P : List (List Int)} (h : Mrg k d P [L] last) (hl : last.length = k) (hC : Stb (L ++ last) C) : Mrg k d (P ++ [C]) [] [] := by
  have hL := (h.r L List.mem_cons_self).1
  have e1 : P.flatten ++ ([L].flatten ++ last) = P.flatten ++ ((L ++ last) ++ []) := by simp
  have e2 : (P ++ [C]).flatten ++ (([] : List (List Int)).flatten ++ []) = P.flatten ++ (C ++ []) := by simp
  have h1 := h.so
  have h2 := h.perm
  rw [e1] at h1 h2
  refine ⟨?_, ?_, h.p.snoc (by rw [hC.len, List.length_append]; omega) hC.srt, fun N hN => by simp at hN, by simp, List.Pairwise.nil⟩
  · rw [e2]; exact So.trans h1 (hC.so.app _ _)
  · rw [e2]; exact ((hC.perm.append_right _).append_left _).trans h2
theorem Mrg.end1 {k : Nat} {d L : List Int} {P : List (List Int)} (h : Mrg k d P [L] []) : Chunks (2 * k) d (P.flatten ++ L) := by
  have hL := h.r L List.mem_cons_self
  have e1 : P.flatten ++ ([L].flatten ++ []) = P.flatten ++ L := by simp
  have h1 := h.so
  have h2 := h.perm
  rw [e1] at h1 h2
  exact ⟨h1, h2, P, L, rfl, h.p, by omega, hL.2⟩
theorem Mrg.end0 {k : Nat} {d last : List Int} {P : List (List Int)} (h : Mrg k d P [] last) : Chunks (2 * k) d (P.flatten ++ last) := by
  have h1 := h.so
  have h2 := h.perm
  have h3 := h.l
  simp only [List.flatten_nil, List.nil_append] at h1 h2
  exact ⟨h1, h2, P, last, rfl, h.p, by omega, h.s⟩
theorem Chunks.start {k : Nat} {d D : List Int} (h : Chunks k d D) : ∃ R last, D = ([] : List (List Int)).flatten ++ (R.flatten ++ last) ∧ Mrg k d [] R last := by
  obtain ⟨R, last, e, hR, hl, hs⟩ := h.pieces
  have h1 := h.so
  have h2 := h.perm
  rw [e] at h1 h2
  exact ⟨R, last, by simpa using e, ⟨by simpa using h1, by simpa using h2, fun M hM => by simp at hM, hR, hl, hs⟩⟩
theorem Chunks.done {k : Nat} {d D : List Int} (h : Chunks k d D) (hk : 0 < k) (hl : D.length ≤ k) : Stb d D := by
  obtain ⟨R, last, e, hR, hll, hs⟩ := h.pieces
  refine ⟨h.so, h.perm, ?_⟩
  cases R with
  | nil => rw [e]; simpa using hs
  | cons L R =>
    have hL := hR L List.mem_cons_self
    have h3 : D.length = L.length + (R.flatten.length + last.length) := by rw [e]; simp [Nat.add_assoc]
    have h4 : R.flatten = [] := List.length_eq_zero_iff.1 (by omega)
    have h5 : last = [] := List.length_eq_zero_iff.1 (by omega)
    rw [e, List.flatten_cons, h4, h5]
    simpa using hL.2

set_option maxHeartbeats 4000000 in
set_option maxRecDepth 100000 in
theorem stable_any (w0 : World) (blk cap : Nat) (pre post : List Value) (d : List Int) (hz : Nz d) (hn : d.length ≤ 1000000) (W : World) (h : Win w0 blk pre post d W) :
    Calls Tryd.prog 39 #[.slice (some ⟨blk, pre.length, none⟩) d.length cap, .int .i64 (d.length : Int), .func (.func 25) #[] #[]] W fun e w' => e = .returned (.tuple #[]) ∧ ∃ C, Stb d C ∧ Win w0 blk pre post C w' := by
  obtain ⟨n, hnn⟩ : ∃ n, d.length = n := ⟨_, rfl⟩
  obtain ⟨o, ho⟩ : ∃ o, pre.length = o := ⟨_, rfl⟩
  rw [hnn] at hn
  rw [hnn, ho]
  have HN := Aside0.mk hnn
  have HO := Aside0.mk ho
  have S0 := Aside0.mk h
  have HZ := Aside0.mk hz
  clear h hnn ho hz
  go_enter Tryd.func39, Tryd.ntmps39
  go_wp2_with fail
  -- pieces of twenty
  go_loopw [7, 8] (fun va vb wr => ∃ (P : List (List Int)) (Y : List Int), va = .int .i64 (P.flatten.length : Int) ∧ vb = .int .i64 ((P.flatten.length : Int) + 20) ∧ Aside0 (Full 20 P ∧ So d (P.flatten ++ Y) ∧ (P.flatten ++ Y).Perm d) ∧ Aside0 (Win w0 blk pre post (P.flatten ++ Y) wr)) (fun va _ _ => n - (intOf va).toNat)
  case atStart => exact ⟨[], d, by rfl, by rfl, ⟨fun M hM => by simp at hM, So.refl _, .refl _⟩, ⟨by simpa using S0.out⟩⟩
  case round =>
    clear S0
    obtain ⟨P, Y, rfl, rfl, HP, S1⟩ := hrel
    obtain ⟨hP, hso, hpm⟩ := HP.out
    have hlen : P.flatten.length + Y.length = n := by rw [← HN.out, ← hpm.length_eq, List.length_append]
    obtain ⟨a, ha⟩ : ∃ a, P.flatten.length = a := ⟨_, rfl⟩
    rw [ha] at hlen ⊢
    by_cases hlt : a + 20 ≤ n
    · have hd : decide ((a : Int) + 20 ≤ (n : Int)) = true := decide_eq_true (by omega)
      obtain ⟨A, Y2, hY, hA⟩ : ∃ A Y2, Y = A ++ Y2 ∧ A.length = 20 := ⟨Y.take 20, Y.drop 20, (List.take_append_drop _ _).symm, by rw [List.length_take]; omega⟩
      subst hY
      have hc := insertion_any w0 blk cap pre post P.flatten A Y2 (fun x hx => HZ.out x (hpm.mem_iff.1 (by simp [hx]))) (by simp only [List.length_append] at hlen ⊢; omega) wr S1.out
      have en : (P.flatten ++ (A ++ Y2)).length = n := by simp only [List.length_append] at hlen ⊢; omega
      rw [en, HO.out, ha, hA, show ((a + 20 : Nat) : Int) = (a : Int) + 20 by omega] at hc
      replace hc := Aside0.mk hc
      have hlt' : (a : Int) + 20 ≤ (n : Int) := by omega
      clear S1 HP
      replace hso := Aside0.mk hso
      replace hpm := Aside0.mk hpm
      replace hlen := Aside0.mk hlen
      go_wp2_with (first | (go_at_call 62; (with_reducible refine hc.out.mono ?_); rintro e w' ⟨rfl, C, hC, hw⟩; replace hw := Aside0.mk hw; replace hC := Aside0.mk hC))
      go_roundw
      case rel => exact ⟨P ++ [C], Y2, by rw [flatten_snoc, List.length_append, hC.out.len, ha, hA]; rfl, by rw [flatten_snoc, List.length_append, hC.out.len, ha, hA]; rfl, ⟨hP.snoc (by rw [hC.out.len, hA]) hC.out.srt, by rw [flatten_snoc, List.append_assoc]; exact So.trans hso.out (hC.out.so.app _ _), by rw [flatten_snoc, List.append_assoc]; exact ((hC.out.perm.append_right _).append_left _).trans hpm.out⟩, ⟨by rw [flatten_snoc, List.append_assoc]; exact hw.out⟩⟩
      case measure => simp [intOf]; omega
    · have hd : decide ((a : Int) + 20 ≤ (n : Int)) = false := decide_eq_false (by omega)
      have hc := insertion_any w0 blk cap pre post P.flatten Y [] (fun x hx => HZ.out x (hpm.mem_iff.1 (by simp [hx]))) (by simp only [List.append_nil, List.length_append]; omega) wr (by simpa using S1.out)
      have en : (P.flatten ++ (Y ++ [])).length = n := by simp only [List.append_nil, List.length_append]; omega
      rw [en, HO.out, ha, show ((a + Y.length : Nat) : Int) = (n : Int) by omega] at hc
      have hc2 : Calls Tryd.prog 62 #[.slice (some ⟨blk, o, none⟩) n cap, .int .i64 (a : Int), .int .i64 (n : Int), .func (.func 25) #[] #[]] wr fun e w' => e = .returned (.tuple #[]) ∧ ∃ D, Aside0 (Chunks 20 d D) ∧ Aside0 (Win w0 blk pre post D w') := hc.mono fun e w' ⟨q1, C, hC, hw⟩ => ⟨q1, P.flatten ++ C, ⟨So.trans hso (hC.so.left _), (hC.perm.append_left _).trans hpm, P, C, rfl, hP, by rw [hC.len]; omega, hC.srt⟩, ⟨by simpa using hw⟩⟩
      replace hc2 := Aside0.mk hc2
      have hlt' : ¬ (a : Int) + 20 ≤ (n : Int) := by omega
      clear S1 HP hc hso hpm hlen hP ha hlt
      go_wp2_with (first | (go_at_call 62; (with_reducible refine hc2.out.mono ?_); rintro e w2 ⟨rfl, D, hC, hw⟩))
      clear hc2
      go_loopw [6] (fun vk wr => ∃ (k : Nat) (D : List Int), vk = .int .i64 (k : Int) ∧ Aside0 (20 ≤ k ∧ k ≤ 4000000) ∧ Aside0 (Chunks k d D) ∧ Aside0 (Win w0 blk pre post D wr)) (fun vk _ => n - (intOf vk).toNat)
      case atStart => exact ⟨20, D, rfl, ⟨by omega, by omega⟩, hC, hw⟩
      case round =>
        clear hC hw
        obtain ⟨k, D, rfl, HK, HC, S2⟩ := hrel
        have hD : D.length = n := by rw [HC.out.perm.length_eq, HN.out]
        by_cases hkn : k < n
        · obtain ⟨R, last, hDe, hM⟩ := HC.out.start
          subst hDe
          replace HM := Aside0.mk hM
          have hk2 : k ≤ 1000000 := by omega
          have hk20 : 20 ≤ k := HK.out.1
          clear HC hM hD HK
          go_wp2_with fail
          go_loopw [7, 8] (fun va vb wr => ∃ (P R : List (List Int)) (last : List Int), va = .int .i64 (P.flatten.length : Int) ∧ vb = .int .i64 ((P.flatten.length : Int) + 2 * (k : Int)) ∧ Aside0 (Mrg k d P R last) ∧ Aside0 (Win w0 blk pre post (P.flatten ++ (R.flatten ++ last)) wr)) (fun va _ _ => n - (intOf va).toNat)
          case atStart => exact ⟨[], R, last, by rfl, by simp, HM, S2⟩
          case round =>
            clear S2 HM R last
            obtain ⟨P, R, last, rfl, rfl, HM, S3⟩ := hrel
            have hml := HM.out.len
            rw [HN.out] at hml
            have hnz := HM.out.nz HZ.out
            obtain ⟨a, ha⟩ : ∃ a, P.flatten.length = a := ⟨_, rfl⟩
            rw [ha] at hml ⊢
            have hll := HM.out.l
            have han : a ≤ n := by omega
            by_cases hlt : a + 2 * k ≤ n
            · have hc : Calls Tryd.prog 63 #[.slice (some ⟨blk, o, none⟩) n cap, .int .i64 (a : Int), .int .i64 ((a : Int) + (k : Int)), .int .i64 ((a : Int) + 2 * (k : Int)), .func (.func 25) #[] #[]] wr fun e w' => e = .returned (.tuple #[]) ∧ ∃ (P2 R2 : List (List Int)) (last2 : List Int), Aside0 (P2.flatten.length = a + 2 * k) ∧ Aside0 (Mrg k d P2 R2 last2) ∧ Aside0 (Win w0 blk pre post (P2.flatten ++ (R2.flatten ++ last2)) w') := by
                match R, HM, S3, hml, hnz with
                | [], HM, S3, hml, hnz => rw [List.flatten_nil, List.length_nil] at hml; omega
                | [L], HM, S3, hml, hnz =>
                  have hfl : [L].flatten.length = L.length := by simp
                  have hL := HM.out.r L List.mem_cons_self
                  have hlk : last.length = k := by have := hL.1; omega
                  have hw : Win w0 blk pre post (P.flatten ++ (L ++ (last ++ []))) wr := by have := S3.out; simpa using this
                  have en : (P.flatten ++ (L ++ (last ++ []))).length = n := by simp only [List.length_append, List.length_nil]; omega
                  have := sym_any (L.length + last.length) w0 blk cap pre post P.flatten L last [] (Nat.le_refl _) (by omega) (by omega) (by simpa using hnz) hL.2 HM.out.s (by rw [en]; exact hn) wr hw
                  rw [en, HO.out, ha, hL.1, hlk, show ((a + k : Nat) : Int) = (a : Int) + (k : Int) by omega, show ((a + k + k : Nat) : Int) = (a : Int) + 2 * (k : Int) by omega] at this
                  exact this.mono fun e w' ⟨q1, C, hC, hw⟩ => ⟨q1, P ++ [C], [], [], ⟨by rw [flatten_snoc, List.length_append, hC.len, List.length_append, ha]; omega⟩, ⟨HM.out.end2' hlk hC⟩, ⟨by rw [flatten_snoc]; simpa using hw⟩⟩
                | L :: M :: R, HM, S3, hml, hnz =>
                  have hL := HM.out.r L List.mem_cons_self
                  have hMm := HM.out.r M (List.mem_cons_of_mem _ List.mem_cons_self)
                  have hw : Win w0 blk pre post (P.flatten ++ (L ++ (M ++ (R.flatten ++ last)))) wr := by have := S3.out; simpa using this
                  have en : (P.flatten ++ (L ++ (M ++ (R.flatten ++ last)))).length = n := by simp only [List.flatten_cons, List.length_append] at hml ⊢; omega
                  have := sym_any (L.length + M.length) w0 blk cap pre post P.flatten L M (R.flatten ++ last) (Nat.le_refl _) (by omega) (by omega) (fun x hx => hnz x (by rcases List.mem_append.1 hx with h | h <;> simp [h])) hL.2 hMm.2 (by rw [en]; exact hn) wr hw
                  rw [en, HO.out, ha, hL.1, hMm.1, show ((a + k : Nat) : Int) = (a : Int) + (k : Int) by omega, show ((a + k + k : Nat) : Int) = (a : Int) + 2 * (k : Int) by omega] at this
                  exact this.mono fun e w' ⟨q1, C, hC, hw⟩ => ⟨q1, P ++ [C], R, last, ⟨by rw [flatten_snoc, List.length_append, hC.len, List.length_append, ha]; omega⟩, ⟨HM.out.two hC⟩, ⟨by rw [flatten_snoc]; simpa using hw⟩⟩
              have hd : decide ((a : Int) + 2 * (k : Int) ≤ (n : Int)) = true := decide_eq_true (by omega)
              have hlt' : (a : Int) + 2 * (k : Int) ≤ (n : Int) := by omega
              replace hc := Aside0.mk hc
              clear HM S3 hml hnz hll ha
              go_wp2_with (first | (go_at_call 63; (with_reducible refine hc.out.mono ?_); rintro e w' ⟨rfl, P2, R2, last2, hp2, hM2, hw2⟩))
              go_roundw
              case rel => exact ⟨P2, R2, last2, by rw [hp2.out]; (first | rfl | (congr 1; omega)), by rw [hp2.out]; (first | rfl | (congr 1; done) | (congr 1; omega)), hM2, hw2⟩
              case measure => simp [intOf]; omega
            · have hd : decide ((a : Int) + 2 * (k : Int) ≤ (n : Int)) = false := decide_eq_false (by omega)
              have hlt' : ¬ (a : Int) + 2 * (k : Int) ≤ (n : Int) := by omega
              by_cases hkm : a + k < n
              · have hc : Calls Tryd.prog 63 #[.slice (some ⟨blk, o, none⟩) n cap, .int .i64 (a : Int), .int .i64 ((a : Int) + (k : Int)), .int .i64 (n : Int), .func (.func 25) #[] #[]] wr fun e w' => e = .returned (.tuple #[]) ∧ ∃ D : List Int, Aside0 (Chunks (2 * k) d D) ∧ Aside0 (Win w0 blk pre post D w') := by
                  match R, HM, S3, hml, hnz with
                  | [], HM, S3, hml, hnz => rw [List.flatten_nil, List.length_nil] at hml; omega
                  | [L], HM, S3, hml, hnz =>
                    have hfl : [L].flatten.length = L.length := by simp
                    have hL := HM.out.r L List.mem_cons_self
                    have hll2 : a + (k + last.length) = n := by have := hL.1; omega
                    have hw : Win w0 blk pre post (P.flatten ++ (L ++ (last ++ []))) wr := by have := S3.out; simpa using this
                    have en : (P.flatten ++ (L ++ (last ++ []))).length = n := by simp only [List.length_append, List.length_nil]; omega
                    have := sym_any (L.length + last.length) w0 blk cap pre post P.flatten L last [] (Nat.le_refl _) (by omega) (by omega) (by simpa using hnz) hL.2 HM.out.s (by rw [en]; exact hn) wr hw
                    rw [en, HO.out, ha, hL.1, show ((a + k : Nat) : Int) = (a : Int) + (k : Int) by omega, show ((a + k + last.length : Nat) : Int) = (n : Int) by omega] at this
                    exact this.mono fun e w' ⟨q1, C, hC, hw⟩ => ⟨q1, P.flatten ++ C, ⟨HM.out.end2 hC⟩, ⟨by simpa using hw⟩⟩
                  | L :: M :: R, HM, S3, hml, hnz =>
                    have hL := HM.out.r L List.mem_cons_self
                    have hMm := HM.out.r M (List.mem_cons_of_mem _ List.mem_cons_self)
                    simp only [List.flatten_cons, List.length_append] at hml
                    omega
                have hkm' : (a : Int) + (k : Int) < (n : Int) := by omega
                have hd2 : decide ((a : Int) + (k : Int) < (n : Int)) = true := decide_eq_true hkm'
                replace hc := Aside0.mk hc
                clear HM S3 hml hnz hll ha
                go_wp2_with (first | (go_at_call 63; (with_reducible refine hc.out.mono ?_); rintro e w' ⟨rfl, D, hD, hw⟩))
                go_roundw
                case rel => exact ⟨2 * k, D, by (congr 1; omega), ⟨by omega, by omega⟩, hD, hw⟩
                case measure => simp [intOf]; omega
              · have hE : ∃ D : List Int, Aside0 (Chunks (2 * k) d D) ∧ Aside0 (Win w0 blk pre post D wr) := by
                  match R, HM, S3, hml, hnz with
                  | [], HM, S3, hml, hnz => exact ⟨_, ⟨HM.out.end0⟩, ⟨by have := S3.out; simpa using this⟩⟩
                  | [L], HM, S3, hml, hnz =>
                    have hfl : [L].flatten.length = L.length := by simp
                    have hL := HM.out.r L List.mem_cons_self
                    obtain rfl : last = [] := List.length_eq_zero_iff.1 (by have := hL.1; omega)
                    exact ⟨_, ⟨HM.out.end1⟩, ⟨by have := S3.out; simpa using this⟩⟩
                  | L :: M :: R, HM, S3, hml, hnz =>
                    have hL := HM.out.r L List.mem_cons_self
                    have hMm := HM.out.r M (List.mem_cons_of_mem _ List.mem_cons_self)
                    simp only [List.flatten_cons, List.length_append] at hml
                    omega
                obtain ⟨D, hD, hw⟩ := hE
                have hkm' : ¬ (a : Int) + (k : Int) < (n : Int) := by omega
                have hd2 : decide ((a : Int) + (k : Int) < (n : Int)) = false := decide_eq_false hkm'
                clear HM S3 hml hnz hll ha
                go_wp2_with fail
                go_roundw
                case rel => exact ⟨2 * k, D, by (congr 1; omega), ⟨by omega, by omega⟩, hD, hw⟩
                case measure => simp [intOf]; omega
        · have HS : Aside0 (Stb d D) := ⟨HC.out.done (by have := HK.out; omega) (by omega)⟩
          have hd : decide ((k : Int) < (n : Int)) = false := decide_eq_false (by omega)
          clear HC HK hD
          go_wp2_with fail
          go_end0
          exact ⟨rfl, D, HS.out, S2.out⟩
end Go.Proofs.YtanpephfnjnfoaaDoor.Pr
end

section
namespace Go.Proofs.YtanpephfnjnfoaaDoor.Pr
open Go.RowKit Go.Proofs.YtanpephfnjnfoaaDoorW.PrintWords Go.Proofs.YtanpephfnjnfoaaDoorW.PrintLast Go.Proofs.YtanpephfnjnfoaaDoorW.PrintMore
set_option linter.unusedVariables false
set_option linter.unusedSimpArgs false

set_option maxRecDepth 100000 in
set_option maxHeartbeats 1000000 in
theorem sortStable_any (w0 : World) (blk cap : Nat) (pre post : List Value) (d : List Int) (hz : Nz d) (hn : d.length ≤ 1000000) (W : World) (h : Win w0 blk pre post d W) :
    Calls Tryd.prog 24 #[.slice (some ⟨blk, pre.length, none⟩) d.length cap, .func (.func 25) #[] #[]] W fun e w' => e = .returned (.tuple #[]) ∧ ∃ C, Stb d C ∧ Win w0 blk pre post C w' := by
  have hc := stable_any w0 blk cap pre post d hz hn W h
  obtain ⟨n, hnn⟩ : ∃ n, d.length = n := ⟨_, rfl⟩
  obtain ⟨o, ho⟩ : ∃ o, pre.length = o := ⟨_, rfl⟩
  rw [hnn, ho] at hc
  rw [hnn, ho]
  rw [hnn] at hn
  replace hc := Aside0.mk hc
  clear hnn ho h
  go_enter Tryd.func24, Tryd.ntmps24
  go_wp2_with (first | (go_at_call 39; (with_reducible refine hc.out.mono ?_); rintro e w' ⟨rfl, C, hC, hw⟩))
  go_end0
  exact ⟨rfl, C, hC, hw⟩
def norm_Order.f (l : List Int) : Option (List Int) := if l.length ≤ 1000000 then some (ordM clsU l) else none
/-- What is ordered so far: P, and it ends so that all may stand behind it. -/
structure Ordg (d D P T : List Int) : Prop where
  eq : D = P ++ T
  so : So d D
  perm : D.Perm d
  srt : SrtR clsU P.reverse
  wall : ∀ z, P.getLast? = some z → clsU z = 0
theorem srtR_app {s t : List Int} : SrtR clsU s → SrtR clsU t → (∀ u v, s.getLast? = some u → t.head? = some v → okN clsU v u) → SrtR clsU (s ++ t) := by
  induction s with
  | nil => exact fun _ h _ => h
  | cons x s ih =>
    intro hs ht h
    cases s with
    | nil =>
      cases t with
      | nil => exact hs
      | cons y t => exact ⟨h x y rfl rfl, ht⟩
    | cons y s => exact ⟨hs.1, ih hs.2 ht (fun u v hu hv => h u v (by simpa using hu) hv)⟩
theorem srtR_of : ∀ {l : List Int}, Srt l → SrtR clsU l.reverse := by
  intro l
  induction l with
  | nil => exact fun _ => trivial
  | cons x l ih =>
    intro h
    rw [List.reverse_cons]
    refine srtR_app (ih (List.pairwise_cons.1 h).2) trivial (fun u v hu hv => ?_)
    obtain rfl : x = v := by simpa using hv
    have hm : u ∈ l := by
      have := List.mem_of_getLast? hu
      simpa using this
    have := (List.pairwise_cons.1 h).1 u hm
    exact fun hh => by omega
theorem Ordg.start (d : List Int) : Ordg d d [] d := ⟨rfl, So.refl _, .refl _, trivial, fun z h => by simp at h⟩
/-- A run has been sorted, one of class 0 stands behind it. -/
theorem Ordg.step {d D P A C T : List Int} {z : Int} (h : Ordg d D P (A ++ z :: T)) (hC : Stb A C) (hz : clsU z = 0) : Ordg d (P ++ (C ++ z :: T)) (P ++ (C ++ [z])) T := by
  have h1 := h.so
  have h2 := h.perm
  rw [h.eq] at h1 h2
  refine ⟨by simp, So.trans h1 (hC.so.app _ _), ((hC.perm.append_right _).append_left _).trans h2, ?_, fun y hy => ?_⟩
  · rw [List.reverse_append, List.reverse_append]
    refine srtR_app ?_ h.srt (fun u v hu hv => ?_)
    · refine srtR_app (s := [z].reverse) trivial (srtR_of hC.srt) (fun u v hu hv => ?_)
      obtain rfl : z = u := by simpa using hu
      exact fun hh => hh.1 hz
    · have : clsU v = 0 := h.wall v (by rw [List.head?_reverse] at hv; exact hv)
      have := clsU_pos u
      exact fun hh => by omega
  · obtain rfl : z = y := by simpa using hy
    exact hz
/-- The last run. -/
theorem Ordg.last {d D P A C : List Int} (h : Ordg d D P A) (hC : Stb A C) : P ++ C = ordM clsU d := by
  have h1 := h.so
  have h2 := h.perm
  rw [h.eq] at h1 h2
  have hs : So d (P ++ C) := So.trans h1 (hC.so.left _)
  have e := hs [] []
  simp only [List.nil_append, List.append_nil] at e
  rw [e]
  refine (ordM_srt clsU _ ?_).symm
  rw [List.reverse_append]
  refine srtR_app (srtR_of hC.srt) h.srt (fun u v hu hv => ?_)
  have : clsU v = 0 := h.wall v (by rw [List.head?_reverse] at hv; exact hv)
  have := clsU_pos u
  exact fun hh => by omega
theorem Win.in_ {w0 W : World} {blk : Nat} {pre post : List Value} {X A Y : List Int} (h : Win w0 blk pre post (X ++ (A ++ Y)) W) : Win w0 blk (pre ++ X.map encR) (Y.map encR ++ post) A W := ⟨h.turned, by have := h.row; simpa using this⟩
theorem Win.out_ {w0 W : World} {blk : Nat} {pre post : List Value} {X A Y : List Int} (h : Win w0 blk (pre ++ X.map encR) (Y.map encR ++ post) A W) : Win w0 blk pre post (X ++ (A ++ Y)) W := ⟨h.turned, by have := h.row; simpa using this⟩
theorem reps_ints {w : World} {base : Nat} {ok : Nat → Prop} : ∀ {xs : List Int} {inner : List Value}, Reps ((Kd.int .i32).M w base ok) 1 xs inner → inner = xs.map encR := by
  intro xs inner h
  refine List.ext_getElem? fun j => ?_
  rw [List.getElem?_map]
  cases hj : xs[j]? with
  | none => rw [List.getElem?_eq_none_iff] at hj; rw [Option.map_none, List.getElem?_eq_none_iff, h.1]; omega
  | some p =>
    have h2 := h.2 j p hj
    have h3 : (inner.drop (j * 1)).take 1 = [Value.int .i32 p] := h2
    rw [Nat.mul_one] at h3
    have h4 := congrArg (fun l => l[0]?) h3
    simp only [List.getElem?_take, List.getElem?_drop] at h4
    simpa [encR] using h4
theorem ints_reps {w : World} {base : Nat} {ok : Nat → Prop} (xs : List Int) : Reps ((Kd.int .i32).M w base ok) 1 xs (xs.map encR) := by
  refine ⟨by simp, fun j p hj => ?_⟩
  show _ = [Value.int .i32 p]
  refine List.ext_getElem? fun i => ?_
  rw [Nat.mul_one, List.getElem?_take]
  by_cases hi : i < 1
  · obtain rfl : i = 0 := by omega
    rw [if_pos (by omega), List.getElem?_drop, List.getElem?_map, Nat.add_zero, hj]
    rfl
  · rw [if_neg hi, List.getElem?_eq_none (by simp; omega)]
/-- A row of the call's own, laid open. -/
theorem win_of {W : World} {base : Nat} {ok : Nat → Prop} {v : Value} {xs : List Int} (h : Kd.R (Kd.int .i32) 21 W base ok v xs) (hne : 0 < xs.length) :
    ∃ (g cap : Nat) (rest : List Value), v = .slice (some ⟨g, 0, none⟩) xs.length cap ∧ base ≤ g ∧ ok g ∧ xs.length + rest.length = cap ∧ cap ≤ maxLen ∧ W.heap[g]? = some (.cells ([] ++ (xs.map encR ++ rest)).toArray 21 (0, 0)) := by
  obtain ⟨h0, inner, ⟨_, h1⟩, h2⟩ := h
  rcases h1 with ⟨_, hn⟩ | ⟨g, cap, cur, rfl, hb, hh, hle, hm, hs, ht⟩
  · omega
  · obtain rfl := reps_ints h2
    have hs1 : cur.size = cap := by rw [hs]; exact Nat.mul_one _
    have ht1 : cur.toList.take xs.length = xs.map encR := by
      have e : xs.length * (Kd.int .i32).sz = xs.length := Nat.mul_one _
      rw [e] at ht
      exact ht
    refine ⟨g, cap, cur.toList.drop xs.length, rfl, hb, h0 g (by simp [Value.ownBlock]), by simp; omega, hm, ?_⟩
    rw [List.nil_append, ← ht1, List.take_append_drop]
    simpa using hh
theorem of_win {W : World} {base g cap : Nat} {rest : List Value} {xs : List Int} (h : W.heap[g]? = some (.cells ([] ++ (xs.map encR ++ rest)).toArray 21 (0, 0))) (hb : base ≤ g) (hc : xs.length + rest.length = cap) (hm : cap ≤ maxLen) :
    Kd.R (Kd.int .i32) 21 W base (fun _ => True) (.slice (some ⟨g, 0, none⟩) xs.length cap) xs := by
  have e : xs.length * (Kd.int .i32).sz = xs.length := Nat.mul_one _
  refine ⟨fun _ _ => trivial, xs.map encR, ⟨by rw [e]; simp, .inr ⟨g, cap, _, rfl, hb, h, by omega, hm, ?_, ?_⟩⟩, ints_reps xs⟩
  · show _ = cap * 1
    simp; omega
  · rw [e]; simp

set_option maxRecDepth 100000 in
set_option maxHeartbeats 4000000 in
theorem order_any (A0 : Option Addr) (c0 : Nat) (l0 : List Int) (w : World) (hr0 : Kd.C (Kd.int .i32) w A0 l0.length l0) (hc0 : l0.length ≤ c0) (hl : l0.length ≤ 1000000) :
    Calls Tryd.prog 11 #[.slice A0 l0.length c0] w fun e w' => ∃ v0_ : Value, e = .returned (v0_) ∧ Kd.R (Kd.int .i32) 21 w' w.heap.size (fun _ => True) v0_ (ordM clsU l0) ∧ Below w.heap.size w w' := by
  have hcl := clone_any A0 c0 l0 w hr0 hc0 hl
  obtain ⟨n, hn⟩ : ∃ n, l0.length = n := ⟨_, rfl⟩
  by_cases h0 : l0 = []
  · subst h0
    rw [List.length_nil] at hn
    subst hn
    replace hcl : Aside0 (Calls Tryd.prog 22 #[.slice A0 0 c0] w fun e w' => ∃ (A : Option Addr) (c : Nat), e = .returned (.slice A 0 c) ∧ Kd.R (Kd.int .i32) 21 w' w.heap.size (fun _ => True) (.slice A 0 c) ([] : List Int) ∧ Below w.heap.size w w') := ⟨hcl.mono fun e w' ⟨v, he, hR, hB⟩ => by
      obtain ⟨A, c, rfl⟩ := Kd.R_slice hR
      exact ⟨A, c, he, hR, hB⟩⟩
    clear hr0
    show Calls Tryd.prog 11 #[.slice A0 0 c0] w _
    go_enter Tryd.func11, Tryd.ntmps11
    go_wp2_with (first | (go_at_call 22; (with_reducible refine hcl.out.mono ?_); rintro e w1 ⟨A, c, rfl, hR, hB⟩))
    clear hcl
    go_loopw [4] (fun vi wr => vi = .int .i64 0 ∧ wr = w1) (fun _ _ => 0)
    case atStart => exact ⟨rfl, rfl⟩
    case round =>
      obtain ⟨rfl, rfl⟩ := hrel
      go_wp2_with fail
      go_ret
      exact ⟨_, rfl, hR, hB⟩
  · have hpos : 0 < l0.length := List.length_pos_iff.2 h0
    replace hcl : Aside0 (Calls Tryd.prog 22 #[.slice A0 n c0] w fun e w' => ∃ (g cap : Nat) (rest : List Value), e = .returned (.slice (some ⟨g, 0, none⟩) n cap) ∧ n ≤ cap ∧ Aside0 (w.heap.size ≤ g ∧ n + rest.length = cap ∧ cap ≤ maxLen) ∧ Aside0 (Win w' g [] rest l0 w') ∧ Below w.heap.size w w') := ⟨by
      rw [hn] at hcl
      refine hcl.mono fun e w' ⟨v, he, hR, hB⟩ => ?_
      obtain ⟨g, cap, rest, rfl, h1, _, h2, h3, h4⟩ := win_of hR hpos
      rw [hn] at he h2
      exact ⟨g, cap, rest, he, by omega, ⟨h1, h2, h3⟩, ⟨⟨Turned.refl _ _, h4⟩⟩, hB⟩⟩
    rw [hn]
    rw [hn] at hl
    replace hn := Aside0.mk hn
    clear hr0 h0 hpos
    go_enter Tryd.func11, Tryd.ntmps11
    go_wp2_with (first | (go_at_call 22; (with_reducible refine hcl.out.mono ?_); rintro e w1 ⟨g, cap, rest, rfl, hncap, hcap, HW0, hB⟩))
    clear hcl
    have hB := Aside0.mk hB
    go_loopw [4] (fun vi wr => ∃ (i : Nat) (D P T : List Int), vi = .int .i64 (i : Int) ∧ i ≤ n + 1 ∧ Aside0 ((Ordg l0 D P T ∧ i = P.length) ∨ (i = n + 1 ∧ D = ordM clsU l0)) ∧ Aside0 (D.length = n) ∧ Aside0 (Win w1 g [] rest D wr)) (fun vi _ => n + 1 - (intOf vi).toNat)
    case atStart => exact ⟨0, l0, [], l0, by rfl, by omega, ⟨.inl ⟨Ordg.start _, rfl⟩⟩, hn, HW0⟩
    case round =>
      clear HW0
      obtain ⟨i, D, P, T, rfl, hin, HO, HL, HW⟩ := hrel
      by_cases hlt : i < n
      · obtain ⟨hO, hiP⟩ : Ordg l0 D P T ∧ i = P.length := by
          rcases HO.out with h | ⟨h, _⟩
          · exact h
          · omega
        have hPT : P.length + T.length = n := by rw [← HL.out, hO.eq, List.length_append]
        -- the run
        have HT := Aside0.mk hO
        have HP := Aside0.mk hiP
        replace hPT := Aside0.mk hPT
        have HW0 := HW
        clear HO hO hiP
        go_wp2_with fail
        go_loopw [5] (fun vk wr => ∃ (A T2 : List Int), vk = .int .i64 ((i : Int) + (A.length : Int)) ∧ Aside0 (T = A ++ T2 ∧ Nz A) ∧ Aside0 (Win w1 g [] rest D wr)) (fun vk _ => n - (intOf vk).toNat)
        case atStart => exact ⟨[], T, by simp, ⟨rfl, fun x hx => by simp at hx⟩, HW0⟩
        case round =>
          clear HW0 HW
          obtain ⟨A, T2, rfl, HA, HW⟩ := hrel
          have hlen : i + (A.length + T2.length) = n := by have h1 := hPT.out; have h2 := HP.out; rw [HA.out.1, List.length_append] at h1; omega
          have hD : D = P ++ (A ++ T2) := by rw [HT.out.eq, HA.out.1]
          have HS : ∀ W c', Win w1 g [] rest D W → Calls Tryd.prog 24 #[.slice (some ⟨g, i, none⟩) A.length c', .func (.func 25) #[] #[]] W fun e w' => e = .returned (.tuple #[]) ∧ ∃ C, Stb A C ∧ Aside0 (Win w1 g [] rest (P ++ (C ++ T2)) w') := fun W c' hw => by
            rw [hD] at hw
            have := sortStable_any w1 g c' ([] ++ P.map encR) (T2.map encR ++ rest) A HA.out.2 (by omega) W hw.in_
            have ei : (([] : List Value) ++ P.map encR).length = i := by simp [HP.out]
            rw [ei] at this
            exact this.mono fun e w' ⟨q1, C, hC, hw⟩ => ⟨q1, C, hC, ⟨hw.out_⟩⟩
          replace HS := Aside0.mk HS
          cases T2 with
          | nil =>
            have hlen2 : i + A.length = n := by simpa using hlen
            have e2 : (i : Int) + (A.length : Int) = (n : Int) := by omega
            have e3 : (i : Int) + (A.length : Int) ≤ (cap : Int) := by omega
            have hd : decide ((i : Int) + (A.length : Int) < (n : Int)) = false := decide_eq_false (by omega)
            have hi0 : (i : Int) ≤ (i : Int) + (A.length : Int) := by omega
            have hAl : A.length = n - i := by omega
            have HTA : Aside0 (Ordg l0 D P A) := ⟨by have := HT.out; rw [HA.out.1, List.append_nil] at this; exact this⟩
            have HS2 := HS.out wr (cap - i) HW.out
            rw [hAl] at HS2
            replace HS2 := Aside0.mk HS2
            have hiw : IntKind.i64.wrap ((n : Int) + 1) = (n : Int) + 1 := by rw [IntKind.wrap_i64]; omega
            clear hlen2 hAl HW HS HT hD hlen
            go_wp2_with (first | (go_at_call 24; (with_reducible refine HS2.out.mono ?_); rintro e w9 ⟨rfl, C, hC, hw⟩; replace hC := Aside0.mk hC))
            go_roundw
            case rel => exact ⟨n + 1, P ++ (C ++ []), P, A, by go_num, by omega, ⟨.inr ⟨rfl, by rw [List.append_nil]; exact HTA.out.last hC.out⟩⟩, ⟨by have h1 := congrArg List.length HTA.out.eq; rw [HL.out] at h1; simp only [List.length_append, List.length_nil, hC.out.len] at h1 ⊢; omega⟩, hw⟩
            case measure => simp [intOf]; omega
          | cons z T2 =>
            have hlen2 : i + A.length < n := by simp only [List.length_cons] at hlen; omega
            have c1 : wr.cell? ⟨g, i + A.length, none⟩ = some (.int .i32 z) := by
              have := HW.out.cell (i := i + A.length) (x := z) (by rw [hD, HP.out, List.getElem?_append_right (by omega), show P.length + A.length - P.length = A.length by omega, get_at])
              simpa using this
            have e1 : ((i : Int) + (A.length : Int)).toNat = i + A.length := by omega
            have e2 : (i : Int) + (A.length : Int) < (n : Int) := by omega
            have hd : decide ((i : Int) + (A.length : Int) < (n : Int)) = true := decide_eq_true e2
            have r1 : IntKind.i64.wrap ((i : Int) + (A.length : Int)) = (i : Int) + (A.length : Int) := by rw [IntKind.wrap_i64]; omega
            replace hlen := Aside0.mk hlen
            replace hD := Aside0.mk hD
            have HCz := class_any z
            by_cases hz : clsU z = 0
            · rw [hz] at HCz
              have HTA : Aside0 (Ordg l0 D P (A ++ z :: T2)) := ⟨by have := HT.out; rw [HA.out.1] at this; exact this⟩
              have HZ := Aside0.mk hz
              have hiw : IntKind.i64.wrap ((i : Int) + (A.length : Int) + 1) = (i : Int) + (A.length : Int) + 1 := by rw [IntKind.wrap_i64]; omega
              have hi0 : (i : Int) ≤ (i : Int) + (A.length : Int) := by omega
              have hi1 : (i : Int) + (A.length : Int) ≤ (cap : Int) := by omega
              clear hz HT
              go_wp2_with (first | (go_at_call 23; (with_reducible refine (HCz _).mono ?_); rintro e w9 ⟨rfl, hb⟩; replace HW := Aside0.mk (HW.out.below hb); clear hb) | (go_at_call 24; (with_reducible refine (HS.out _ _ HW.out).mono ?_); rintro e w9 ⟨rfl, C, hC, hw⟩; replace hC := Aside0.mk hC))
              go_roundw
              case rel => exact ⟨i + A.length + 1, P ++ (C ++ z :: T2), P ++ (C ++ [z]), T2, by go_num, by omega, ⟨.inl ⟨HTA.out.step hC.out HZ.out, by simp only [List.length_append, List.length_cons, List.length_nil, hC.out.len]; have := HP.out; omega⟩⟩, ⟨by have h1 := congrArg List.length hD.out; rw [HL.out] at h1; simp only [List.length_append, List.length_cons, hC.out.len] at h1 ⊢; omega⟩, hw⟩
              case measure => simp [intOf]; omega
            · have hzb : (clsU z == 0) = false := beq_eq_false_iff_ne.2 hz
              replace HA : Aside0 (T = (A ++ [z]) ++ T2 ∧ Nz (A ++ [z])) := ⟨by rw [HA.out.1]; simp, fun x hx => by
                rcases List.mem_append.1 hx with hx | hx
                · exact HA.out.2 x hx
                · rw [List.mem_singleton.1 hx]; exact hz⟩
              generalize clsU z = cz at HCz hz hzb
              go_wp2_with (first | (go_at_call 23; (with_reducible refine (HCz _).mono ?_); rintro e w9 ⟨rfl, hb⟩; replace HW := Aside0.mk (HW.out.below hb); clear hb))
              go_roundw
              case rel => exact ⟨A ++ [z], T2, by simp; omega, HA, HW⟩
              case measure => simp [intOf]; omega
      · have hD : D = ordM clsU l0 := by
          rcases HO.out with ⟨hO, hi⟩ | ⟨_, h⟩
          · have hPT : P.length + T.length = n := by rw [← HL.out, hO.eq, List.length_append]
            obtain rfl : T = [] := List.length_eq_zero_iff.1 (by omega)
            have := hO.last (C := []) ⟨So.refl _, .refl _, List.Pairwise.nil⟩
            rw [hO.eq]; exact this
          · exact h
        have hd : decide ((i : Int) < (n : Int)) = false := decide_eq_false (by omega)
        have hR : Kd.R (Kd.int .i32) 21 wr w.heap.size (fun _ => True) (.slice (some ⟨g, 0, none⟩) n cap) D := by
          have := of_win (base := w.heap.size) (cap := cap) HW.out.row hcap.out.1 (by rw [HL.out]; exact hcap.out.2.1) hcap.out.2.2
          rw [HL.out] at this
          exact this
        have hbb : Below w.heap.size w wr := HW.out.turned.below hB.out hB.out.size (fun k hk e => by have := hcap.out.1; omega)
        rw [hD] at hR
        clear HO HW HL hD hB
        go_wp2_with fail
        go_ret
        exact ⟨_, rfl, hR, hbb⟩
theorem norm_Order.calls (A0 : Option Addr) (c0 : Nat) (l0 : List Int) (r : List Int) (w : World) (hr0 : Kd.C (Kd.int .i32) w A0 l0.length l0) (hc0 : l0.length ≤ c0) (h : norm_Order.f l0 = some r) :
    Calls Tryd.prog 11 #[.slice A0 l0.length c0] w fun e w' => ∃ v0_ : Value, e = .returned (v0_) ∧ Kd.R (Kd.int .i32) 21 w' w.heap.size (fun _ => True) v0_ r ∧ Below w.heap.size w w' := by
  unfold norm_Order.f at h
  split at h
  · next hl =>
    obtain rfl := Option.some.inj h
    exact order_any A0 c0 l0 w hr0 hc0 hl
  · cases h
end Go.Proofs.YtanpephfnjnfoaaDoor.Pr
end

section
namespace Go.Proofs.YtanpephfnjnfoaaDoor.Pr
open Go.RowKit Go.Proofs.YtanpephfnjnfoaaDoorW.PrintWords Go.Proofs.YtanpephfnjnfoaaDoorW.PrintLast Go.Proofs.YtanpephfnjnfoaaDoorW.PrintMore
set_option linter.unusedVariables false
set_option linter.unusedSimpArgs false
attribute [local go_sem] Oper.semAt_some

def decU (r : Int) : List Int := (unidata_Decomp.f r).getD []
theorem decU_f (r : Int) : unidata_Decomp.f r = some (decU r) := rfl
theorem decU_len (r : Int) : (decU r).length ≤ 2 := by
  have e : decU r = if r = 8486 then [937] else if r = 8490 then [75] else if r = 8491 then [197] else if (ofP fun x => x.f0 == r).2 = true then [(ofP fun x => x.f0 == r).1.f1, (ofP fun x => x.f0 == r).1.f2] else [] := rfl
  rw [e]
  repeat' split
  all_goals simp
def apartK : Nat → Int → List Int
  | 0, r => [r]
  | k + 1, r => if decU r = [] then [r] else (decU r).flatMap (apartK k)
def Dep : Nat → Int → Prop
  | 0, r => decU r = []
  | k + 1, r => ∀ x ∈ decU r, Dep k x
theorem apartK_nil {k : Nat} {r : Int} (h : decU r = []) : apartK k r = [r] := by
  cases k with
  | zero => rfl
  | succ k => rw [apartK, if_pos h]
theorem dep_nil {k : Nat} {r : Int} (h : decU r = []) : Dep k r := by
  cases k with
  | zero => exact h
  | succ k => intro x hx; rw [h] at hx; simp at hx
theorem apart_ne (k : Nat) (r : Int) : 0 < (apartK k r).length := by
  induction k generalizing r with
  | zero => simp [apartK]
  | succ k ih =>
    rw [apartK]
    split
    · simp
    · next h =>
      cases e : decU r with
      | nil => exact absurd e h
      | cons x t => rw [List.flatMap_cons, List.length_append]; have := ih x; omega

theorem RoundIn.wide' {m m' : Nat} {P : Program} {l l2 : Nat} {f : FuncId} {tmps : Array Value} {assign body : Code} {w : World} {R : Ending → World → Prop} (h : RoundIn Fence.wide m P l f tmps assign body w R) : RoundIn (Fence.wide.inRound l2) m' P l f tmps assign body w R := ⟨h.1, fun c cs _ => h.2 c cs (room_wide _)⟩
theorem RoundIn.wide0 {m m' : Nat} {P : Program} {l : Nat} {f : FuncId} {tmps : Array Value} {assign body : Code} {w : World} {R : Ending → World → Prop} (h : RoundIn Fence.wide m P l f tmps assign body w R) : RoundIn Fence.wide m' P l f tmps assign body w R := ⟨h.1, fun c cs _ => h.2 c cs (room_wide _)⟩
/-- What an iterator under way holds: the loop's own J; and that blocks of its own hold what they held. -/
structure ApS (J : List Int → (Nat → Prop) → World → Prop) (n1 : Nat) (Mn : Nat → Obj → Prop) (pre : List Int) (O : Nat → Prop) (U : World) : Prop where
  j : J pre O U
  o : ∀ k, O k → n1 ≤ k ∧ k < U.heap.size
  m : ∀ k o, Mn k o → n1 ≤ k ∧ ¬ O k ∧ U.heap[k]? = some o
theorem ApS.turn {J : List Int → (Nat → Prop) → World → Prop} {n1 : Nat} {Q : Nat → Prop} {Mn : Nat → Obj → Prop} {pre : List Int} {O T : Nat → Prop} {A B : World} (hJ : ∀ s O A B, J s O A → Turned (fun k => (Q k ∨ n1 ≤ k) ∧ ¬ O k) A B → J s O B)
    (h : ApS J n1 Mn pre O A) (ht : Turned T A B) (hT : ∀ k, T k → n1 ≤ k ∧ ¬ O k) (hM : ∀ k o, Mn k o → ¬ T k) : ApS J n1 Mn pre O B :=
  ⟨hJ _ _ _ _ h.j (ht.mono fun k _ hk => ⟨.inr (hT k hk).1, (hT k hk).2⟩), fun k hk => ⟨(h.o k hk).1, Nat.lt_of_lt_of_le (h.o k hk).2 ht.size⟩, fun k o hk => ⟨(h.m k o hk).1, (h.m k o hk).2.1, (ht.same k (Array.getElem?_eq_some_iff.1 (h.m k o hk).2.2).1 (hM k o hk)).trans (h.m k o hk).2.2⟩⟩
theorem ApS.new {J : List Int → (Nat → Prop) → World → Prop} {n1 : Nat} {Q : Nat → Prop} {Mn : Nat → Obj → Prop} {pre : List Int} {O : Nat → Prop} {A B : World} (hJ : ∀ s O A B, J s O A → Turned (fun k => (Q k ∨ n1 ≤ k) ∧ ¬ O k) A B → J s O B)
    (h : ApS J n1 Mn pre O A) (hb : Below A.heap.size A B) : ApS J n1 Mn pre O B := h.turn hJ (Turned.of_below (fun _ => False) hb) (fun _ hk => hk.elim) (fun _ _ _ hk => hk)
theorem ApS.more {J : List Int → (Nat → Prop) → World → Prop} {n1 : Nat} {Mn : Nat → Obj → Prop} {pre : List Int} {O : Nat → Prop} {A : World} (h : ApS J n1 Mn pre O A) {D : Nat} {o : Obj} (h1 : n1 ≤ D) (h2 : ¬ O D) (h3 : A.heap[D]? = some o) : ApS J n1 (fun k x => Mn k x ∨ (k = D ∧ x = o)) pre O A :=
  ⟨h.j, h.o, fun k x hk => hk.elim (h.m k x) fun ⟨e1, e2⟩ => by rw [e1, e2]; exact ⟨h1, h2, h3⟩⟩
/-- Behind a round of the outer loop's. -/
theorem ApS.behind {J J' : List Int → (Nat → Prop) → World → Prop} {n1 : Nat} {Q : Nat → Prop} {Mn : Nat → Obj → Prop} {pre pre' : List Int} {O O' : Nat → Prop} {A B : World} (h : ApS J n1 Mn pre O A) (hr : Rnd (fun k => Q k ∨ n1 ≤ k) O O' A B) (hn : n1 ≤ A.heap.size) (hj : J' pre' O' B) : ApS J' n1 Mn pre' O' B :=
  ⟨hj, fun k hk => ⟨(hr.new k hk).elim (fun h' => (h.o k h').1) (fun h' => Nat.le_trans hn h'), hr.lt k hk⟩, fun k o hk => by
    obtain ⟨h1, h2, h3⟩ := h.m k o hk
    have hlt := (Array.getElem?_eq_some_iff.1 h3).1
    refine ⟨h1, fun h' => ?_, (hr.same k hlt (.inr h1) h2).trans h3⟩
    rcases hr.new k h' with h' | h'
    · exact h2 h'
    · omega⟩
/-- The inner loop's invariant. -/
def InI (J : List Int → (Nat → Prop) → World → Prop) (n1 N Bx : Nat) (Mn : Nat → Obj → Prop) (pre s : List Int) (O2 : Nat → Prop) (U : World) : Prop :=
  ∃ O : Nat → Prop, ApS J n1 Mn (pre ++ s) O U ∧ (∀ k, O2 k ↔ O k ∧ N ≤ k) ∧ ¬ O Bx ∧ N ≤ U.heap.size
theorem InI.abides {J : List Int → (Nat → Prop) → World → Prop} {n1 N Bx : Nat} {Q : Nat → Prop} {Mn : Nat → Obj → Prop} {pre s : List Int} {O2 : Nat → Prop} {A B : World} (hJ : ∀ s O A B, J s O A → Turned (fun k => (Q k ∨ n1 ≤ k) ∧ ¬ O k) A B → J s O B) (hB : n1 ≤ Bx) (hN : n1 ≤ N) (hM : ∀ k o, Mn k o → k ≠ Bx ∧ k < N)
    (h : InI J n1 N Bx Mn pre s O2 A) (ht : Turned (fun k => (k = Bx ∨ N ≤ k) ∧ ¬ O2 k) A B) : InI J n1 N Bx Mn pre s O2 B := by
  obtain ⟨O, hS, hO2, hn, hz⟩ := h
  refine ⟨O, hS.turn hJ ht (fun k hk => ?_) (fun k o hk hh => ?_), hO2, hn, Nat.le_trans hz ht.size⟩
  · rcases hk.1 with rfl | h
    · exact ⟨hB, hn⟩
    · exact ⟨Nat.le_trans hN h, fun h' => hk.2 ((hO2 k).2 ⟨h', h⟩)⟩
  · have := hM k o hk
    rcases hh.1 with h | h
    · exact this.1 h
    · omega
/-- A round of the inner loop's in which the outer one's has been called. -/
theorem InI.round {J J' : List Int → (Nat → Prop) → World → Prop} {n1 N Bx : Nat} {Q : Nat → Prop} {Mn : Nat → Obj → Prop} {pre s : List Int} {y : Int} {O O' O2 : Nat → Prop} {A B : World} (hB : n1 ≤ Bx) (hN : n1 ≤ N) (hBN : Bx < N) (hS : ApS J n1 Mn (pre ++ s) O A) (hO2 : ∀ k, O2 k ↔ O k ∧ N ≤ k) (hn : ¬ O Bx) (hz : N ≤ A.heap.size)
    (hr : Rnd (fun k => Q k ∨ n1 ≤ k) O O' A B) (hj : J' (pre ++ s ++ [y]) O' B) : Rnd (fun k => k = Bx ∨ N ≤ k) O2 (fun k => O' k ∧ N ≤ k) A B ∧ InI J' n1 N Bx Mn pre (s ++ [y]) (fun k => O' k ∧ N ≤ k) B := by
  have hS' := hS.behind hr (Nat.le_trans hN hz) hj
  rw [List.append_assoc] at hS'
  refine ⟨⟨hr.size, fun k hk => ?_, fun k hk => hr.lt k hk.1, fun k hk hc hnk => hr.same k hk (.inr ?_) ?_⟩, O', hS', fun k => Iff.rfl, fun h => ?_, Nat.le_trans hz hr.size⟩
  · rcases hr.new k hk.1 with h | h
    · exact .inl ((hO2 k).2 ⟨h, hk.2⟩)
    · exact .inr h
  · rcases hc with rfl | h
    · exact hB
    · omega
  · rcases hc with rfl | h
    · exact hn
    · exact fun h' => hnk ((hO2 k).2 ⟨h', h⟩)
  · rcases hr.new Bx h with h | h
    · exact hn h
    · omega

theorem apart_makes (x : Int) (w : World) : Calls Tryd.prog 28 #[.int .i32 x] w fun e w' => e = .returned (.func (.func 41) #[] #[.pointer (some ⟨w.heap.size, 0, none⟩)]) ∧ w' = w.alloc (.cells #[.int .i32 x] 21) := by
  have hmf : ∀ (fn : Fn) (first cap : Array Value) (w : World), (Instr.makeFunc fn first cap).run Tryd.prog w = .ok (.func fn first cap) w := fun _ _ _ _ => rfl
  go_enter Tryd.func28, Tryd.ntmps28
  go_wp2
  go_ret
  exact ⟨rfl, rfl⟩
def GivesApart (k : Nat) : Prop := ∀ (r : Int), Dep k r → ∀ (Br : Nat) (w : World), w.cell? ⟨Br, 0, none⟩ = some (.int .i32 r) →
  Gives Tryd.prog 41 #[.pointer (some ⟨Br, 0, none⟩)] encS (fun j => j = Br) (fun _ => True) (fun zs => zs = apartK k r) (fun _ => True) (apartK k r).length w

set_option maxRecDepth 100000 in
set_option maxHeartbeats 2000000 in
theorem gives_none (k : Nat) (r : Int) (hd : decU r = []) (Br : Nat) (w : World) (hc0 : w.cell? ⟨Br, 0, none⟩ = some (.int .i32 r)) :
    Gives Tryd.prog 41 #[.pointer (some ⟨Br, 0, none⟩)] encS (fun j => j = Br) (fun _ => True) (fun zs => zs = apartK k r) (fun _ => True) (apartK k r).length w := by
  intro l J Jx W hW _ hJ hJx hY h0
  have hBr := World.block_lt_of_cell? _ _ hc0
  have hc : W.cell? ⟨Br, 0, none⟩ = some (.int .i32 r) := (hW.cell (p := ⟨Br, 0, none⟩) hBr).trans hc0
  have hD := fun W' => unidata_Decomp.calls r _ W' (decU_f r)
  rw [hd] at hD
  refine (callsIn_wide (n := 12)).1 (callsIn_of_wp_marks Tryd.func41 rfl trivial ?_ rfl)
  simp only [Tryd.ntmps41, List.size_toArray, List.length_cons, List.length_nil, Nat.reduceAdd, Nat.reduceSub, Array.replicate_succ, Array.replicate_zero, List.push_toArray, List.append_toArray, List.nil_append, List.cons_append]
  have hc1 : (W.alloc (.cells #[.func (.yield l) #[] #[]] 59)).cell? ⟨Br, 0, none⟩ = some (.int .i32 r) := pw_cell_below (below_alloc (Below.refl _ _) _) hc
  gi_wp2_with (refine ⟨trivial, ?_⟩; gi_at_call 42; refine ((callsIn_wide (n := 11)).2 (hD _)).mono ?_; rintro e w2 ⟨v, rfl, hR, hb⟩; obtain ⟨A, c, rfl⟩ := Kd.R_slice hR; have hb2 := below_step (below_alloc (Below.refl W.heap.size W) (.cells #[.func (.yield l) #[] #[]] 59)) hb; have hc2 := pw_cell_below hb hc1; have hcy : w2.cell? ⟨W.heap.size, 0, none⟩ = some (.func (.yield l) #[] #[]) := pw_cell_below hb (by simp); obtain ⟨fn, tmps, assign, body, hy, hRd⟩ := hY [] r (fun _ => False) w2 (hJ _ _ _ _ h0 (Turned.of_below _ hb2)) hb2.size (fun _ h => h.elim) (apart_ne k r))
  refine (RoundIn.wide0 hRd).mono ?_
  have hap := apartK_nil (k := k) hd
  rintro e W3 ⟨O', hr, ⟨rfl, hj⟩ | ⟨rfl, hj⟩⟩
  · have hO : ∀ k, O' k → W.heap.size ≤ k ∧ k < W3.heap.size := fun k h => ⟨(hr.new k h).elim (fun h => h.elim) (fun h => Nat.le_trans hb2.size h), hr.lt k h⟩
    gi_wp2
    exact ⟨_, results_none rfl _ _ _, _, O', rfl, hO, .inl ⟨[r], hap.symm, hj⟩⟩
  · have hO : ∀ k, O' k → W.heap.size ≤ k ∧ k < W3.heap.size := fun k h => ⟨(hr.new k h).elim (fun h => h.elim) (fun h => Nat.le_trans hb2.size h), hr.lt k h⟩
    gi_wp2
    exact ⟨_, results_none rfl _ _ _, _, O', rfl, hO, .inr ⟨_, trivial, hj⟩⟩
theorem cell_of_R {W : World} {base e g n cap i : Nat} {ok : Nat → Prop} {xs : List Int} {x : Int} (h : Kd.R (Kd.int .i32) e W base ok (.slice (some ⟨g, 0, none⟩) n cap) xs) (hx : xs[i]? = some x) : W.cell? ⟨g, i, none⟩ = some (.int .i32 x) := by
  obtain ⟨hn, _, _⟩ := Kd.R_reads' h
  have hi := (List.getElem?_eq_some_iff.1 hx).1
  obtain ⟨c, _, hM, hc, _⟩ := Kd.R_elem h 0 (i : Int) (by omega) (by omega)
  have hM' : c = [Value.int .i32 (xs.getD ((i : Int)).toNat 0)] := hM
  have := hc 0 (.int .i32 x) (by rw [hM', Int.toNat_natCast, List.getD_eq_getElem?_getD, hx]; rfl)
  have e1 : (i : Int).toNat * (Kd.int .i32).sz + 0 = i := by rw [Int.toNat_natCast]; show i * 1 + 0 = i; omega
  rw [e1] at this
  exact this

set_option maxRecDepth 100000 in
set_option maxHeartbeats 4000000 in
theorem gives_1 (k : Nat) (IH : GivesApart k) (r x : Int) (hd : decU r = [x]) (hdep : ∀ z ∈ [x], Dep k z) (Br : Nat) (w : World) (hc0 : w.cell? ⟨Br, 0, none⟩ = some (.int .i32 r)) :
    Gives Tryd.prog 41 #[.pointer (some ⟨Br, 0, none⟩)] encS (fun j => j = Br) (fun _ => True) (fun zs => zs = apartK (k + 1) r) (fun _ => True) (apartK (k + 1) r).length w := by
  intro l J Jx W hW _ hJ hJx hY h0
  have eg : ∀ args w, (callFunc 41 args).run Tryd.prog w = .ok (.enter 41 args) w := enters_of Tryd.func41 (by kernel_rfl) rfl
  have hap : apartK (k + 1) r = apartK k x := by rw [apartK, if_neg (by rw [hd]; simp), hd]; simp
  have hBr := World.block_lt_of_cell? _ _ hc0
  have hc : W.cell? ⟨Br, 0, none⟩ = some (.int .i32 r) := (hW.cell (p := ⟨Br, 0, none⟩) hBr).trans hc0
  have hc1 : (W.alloc (.cells #[.func (.yield l) #[] #[]] 59)).cell? ⟨Br, 0, none⟩ = some (.int .i32 r) := pw_cell_below (below_alloc (Below.refl _ _) _) hc
  have hD : ∀ W', Calls Tryd.prog 42 #[.int .i32 r] W' fun e w' => ∃ (gd c : Nat) (og : Obj), e = .returned (.slice (some ⟨gd, 0, none⟩) 1 c) ∧ W'.heap.size ≤ gd ∧ w'.heap[gd]? = some og ∧ w'.cell? ⟨gd, 0, none⟩ = some (.int .i32 x) ∧ Below W'.heap.size W' w' := fun W' => (unidata_Decomp.calls r _ W' (decU_f r)).mono fun e w' ⟨v, he, hR, hb⟩ => by
    rw [hd] at hR
    obtain ⟨gd, c, rfl, h1, h2, cells, h3⟩ := Kd.R_form hR (by simp)
    exact ⟨gd, c, _, he, h1, h3, cell_of_R hR rfl, hb⟩
  clear hc hd
  refine (callsIn_wide (n := 12)).1 (callsIn_of_wp_marks Tryd.func41 rfl trivial ?_ rfl)
  simp only [Tryd.ntmps41, List.size_toArray, List.length_cons, List.length_nil, Nat.reduceAdd, Nat.reduceSub, Array.replicate_succ, Array.replicate_zero, List.push_toArray, List.append_toArray, List.nil_append, List.cons_append]
  gi_wp2_with (refine ⟨trivial, ?_⟩; gi_at_call 42; refine ((callsIn_wide (n := 11)).2 (hD _)).mono ?_; rintro e w2 ⟨gd, c, og, rfl, hgd, hog, hcd0, hb⟩)
  have hb2 := below_step (below_alloc (Below.refl W.heap.size W) (.cells #[.func (.yield l) #[] #[]] 59)) hb
  have hbx : (W.alloc (.cells #[.func (.yield l) #[] #[]] 59)).heap[W.heap.size]? = some (.cells #[.func (.yield l) #[] #[]] 59 (0, 0)) := World.alloc_heap_new _ _
  have hoy : w2.heap[W.heap.size]? = some (.cells #[.func (.yield l) #[] #[]] 59 (0, 0)) := (hb.block _ (by simp)).trans hbx
  have hcy0 : w2.cell? ⟨W.heap.size, 0, none⟩ = some (.func (.yield l) #[] #[]) := by simp [World.cell?, hoy]
  rw [World.size_alloc] at hgd
  obtain ⟨Mn0, hMn0⟩ : ∃ Mn0 : Nat → Obj → Prop, Mn0 = fun k o => (k = W.heap.size ∧ o = .cells #[.func (.yield l) #[] #[]] 59 (0, 0)) ∨ (k = gd ∧ o = og) := ⟨_, rfl⟩
  have HMy0 : Mn0 W.heap.size (.cells #[.func (.yield l) #[] #[]] 59 (0, 0)) := by rw [hMn0]; exact .inl ⟨rfl, rfl⟩
  have HMg0 : Mn0 gd og := by rw [hMn0]; exact .inr ⟨rfl, rfl⟩
  have hS0 : ApS J W.heap.size Mn0 [] (fun _ => False) w2 := ⟨hJ _ _ _ _ h0 (Turned.of_below _ hb2), fun k h => h.elim, fun k o h => by
    rw [hMn0] at h
    rcases h with ⟨rfl, rfl⟩ | ⟨rfl, rfl⟩
    · exact ⟨Nat.le_refl _, fun h => h, hoy⟩
    · exact ⟨by omega, fun h => h, hog⟩⟩
  clear hMn0 hb hbx hc1
  have HN0 := hb2.size
  obtain ⟨O0, hO0⟩ : ∃ O0 : Nat → Prop, O0 = fun _ => False := ⟨_, rfl⟩
  rw [← hO0] at hS0
  clear hO0
  refine wpIn_loop_rounds 2 ?_
  rw [roundsIn_succ]
  have hcx0 : w2.cell? ⟨gd, 0, none⟩ = some (.int .i32 x) := (World.cell?_of_block ((hS0.m gd og HMg0).2.2.trans hog.symm)).trans hcd0
  gi_wp2_with (refine ⟨trivial, ?_⟩; gi_at_call 28; refine ((callsIn_wide (n := 11)).2 (apart_makes _ _)).mono ?_; rintro e w' ⟨rfl, rfl⟩)
  have hT0 := hS0.new hJ (below_alloc (Below.refl _ _) (.cells #[.int .i32 x] 21))
  have hcb0 : (w2.alloc (.cells #[.int .i32 x] 21)).cell? ⟨w2.heap.size, 0, none⟩ = some (.int .i32 x) := by simp
  have hsz0 : (w2.alloc (.cells #[.int .i32 x] 21)).heap.size = w2.heap.size + 1 := by simp
  have hnB0 : ¬ O0 w2.heap.size := fun h => Nat.lt_irrefl _ (hS0.o _ h).2
  have hM0 : ∀ k o, Mn0 k o → k < w2.heap.size := fun k o h => (Array.getElem?_eq_some_iff.1 (hS0.m k o h).2.2).1
  generalize w2.alloc (.cells #[.int .i32 x] 21) = V0 at hT0 hcb0 hsz0 ⊢
  refine wpIn_rangeFunc_gives (n := 12) (gf := 41) (lb := #[.pointer (some ⟨w2.heap.size, 0, none⟩)]) (a₁ := fun y_ => { tmps := #[.func (.yield l) #[] #[], .pointer (some ⟨Br, 0, none⟩), .pointer (some ⟨W.heap.size, 0, none⟩), .slice (some ⟨gd, 0, none⟩) 1 c, undef, .int .i32 x, .int .i32 y_, .int .i32 r, .slice (some ⟨gd, 0, none⟩) 1 c, .slice (some ⟨gd, 0, none⟩) 1 c, .int .i64 1, .bool false, undef, undef, undef, .slice (some ⟨gd, 0, none⟩) 1 c, .int .i64 1, .int .i64 0, .bool true, .pointer (some ⟨gd, 0, none⟩), .int .i32 x, .int .i32 x, .func (.func 41) #[] #[.pointer (some ⟨w2.heap.size, 0, none⟩)], .int .i32 y_, undef, undef, undef, undef, undef], defers := [] }) rfl eg (IH x (hdep x (by simp)) w2.heap.size V0 hcb0) (Below.refl _ _) (fun k h => by subst h; omega) (fun _ => rfl)
    (fun s O2 Wc => InI J W.heap.size V0.heap.size w2.heap.size Mn0 ([]) s O2 Wc)
    (fun c s O2 Wc => c = .ret ∧ InI Jx W.heap.size V0.heap.size w2.heap.size Mn0 ([]) s O2 Wc)
    (fun _ _ _ _ => trivial)
    (fun s O2 A B h ht => InI.abides hJ (by omega) (by omega) (fun k o hk => by have := hM0 k o hk; omega) h ht)
    (fun c s O2 A B h ht => ⟨h.1, InI.abides hJx (by omega) (by omega) (fun k o hk => by have := hM0 k o hk; omega) h.2 ht⟩)
    ⟨O0, by rw [List.append_nil]; exact hT0, fun k => ⟨fun h => h.elim, fun h => by have := (hS0.o k h.1).2; omega⟩, hnB0, Nat.le_refl _⟩
    ?assign0 ?body0 ?done0 ?stop0
  case assign0 =>
    intro l2 y Wa K hK
    gi_wp2
    exact hK
  case body0 =>
    rintro l2 s y O2 Wc ⟨O, hS, hO2, hnB, hz⟩ hN hOge hWge
    have hcy : Wc.cell? ⟨W.heap.size, 0, none⟩ = some (.func (.yield l) #[] #[]) := (World.cell?_of_block ((hS.m W.heap.size _ HMy0).2.2.trans hoy.symm)).trans hcy0
    obtain ⟨fn, tmps, assign, body, hy, hRd⟩ := hY ([] ++ s) y O Wc hS.j (by omega) hS.o (by rw [hap]; simp only [List.length_append, List.length_nil]; omega)
    gi_wp2
    refine (RoundIn.wide' hRd).mono ?_
    rintro e W' ⟨O', hr, ⟨rfl, hj⟩ | ⟨rfl, hj⟩⟩
    · gi_wp2
      obtain ⟨q1, q2⟩ := InI.round (J' := J) (Bx := w2.heap.size) (by omega) (by omega) (by omega) hS hO2 hnB hz hr hj
      exact ⟨_, q1, q2⟩
    · gi_wp2
      obtain ⟨q1, q2⟩ := InI.round (J' := Jx) (Bx := w2.heap.size) (by omega) (by omega) (by omega) hS hO2 hnB hz hr hj
      exact ⟨_, q1, rfl, q2⟩
  case stop0 =>
    rintro D cc s O2 Wc hD hnD _ ⟨rfl, O, hS, hO2, hnB, hz⟩ hK
    have hnO : ¬ O D := fun h => hnD ((hO2 D).2 ⟨h, hD⟩)
    gi_wp2
    have hT := hS.turn hJx (Turned.putObj (T := fun k => k = D) Wc (.deferred none) rfl) (fun k e => by subst e; exact ⟨by omega, hnO⟩) (fun k o hk e => by have := hM0 k o hk; omega)
    exact ⟨by simp, .inl ⟨_, _, rfl, run_takeDeferred hK, ⟨_, results_none rfl _ _ _, _, O, rfl, hT.o, .inr ⟨_, trivial, hT.j⟩⟩⟩⟩
  case done0 =>
    rintro D0 zs O2_ W0 hD0 hnD0 rfl ⟨O1, hS1, hO2, hnB, hz0⟩ hK0
    have hnO0 : ¬ O1 D0 := fun h => hnD0 ((hO2 _).2 ⟨h, hD0⟩)
    gi_wp2
    rw [roundsIn_succ]
    gi_wp2
    have hT := hS1.turn hJ (Turned.putObj (T := fun k => k = D0) W0 (.deferred none) rfl) (fun k e => by subst e; exact ⟨by omega, hnO0⟩) (fun k o hk e => by have := hM0 k o hk; omega)
    exact ⟨by simp, .inl ⟨_, _, rfl, run_takeDeferred hK0, ⟨_, results_none rfl _ _ _, _, O1, rfl, hT.o, .inl ⟨_, by rw [hap]; simp, hT.j⟩⟩⟩⟩

set_option maxRecDepth 100000 in
set_option maxHeartbeats 4000000 in
theorem gives_2 (k : Nat) (IH : GivesApart k) (r x y : Int) (hd : decU r = [x, y]) (hdep : ∀ z ∈ [x, y], Dep k z) (Br : Nat) (w : World) (hc0 : w.cell? ⟨Br, 0, none⟩ = some (.int .i32 r)) :
    Gives Tryd.prog 41 #[.pointer (some ⟨Br, 0, none⟩)] encS (fun j => j = Br) (fun _ => True) (fun zs => zs = apartK (k + 1) r) (fun _ => True) (apartK (k + 1) r).length w := by
  intro l J Jx W hW _ hJ hJx hY h0
  have eg : ∀ args w, (callFunc 41 args).run Tryd.prog w = .ok (.enter 41 args) w := enters_of Tryd.func41 (by kernel_rfl) rfl
  have hap : apartK (k + 1) r = apartK k x ++ apartK k y := by rw [apartK, if_neg (by rw [hd]; simp), hd]; simp
  have hBr := World.block_lt_of_cell? _ _ hc0
  have hc : W.cell? ⟨Br, 0, none⟩ = some (.int .i32 r) := (hW.cell (p := ⟨Br, 0, none⟩) hBr).trans hc0
  have hc1 : (W.alloc (.cells #[.func (.yield l) #[] #[]] 59)).cell? ⟨Br, 0, none⟩ = some (.int .i32 r) := pw_cell_below (below_alloc (Below.refl _ _) _) hc
  have hD : ∀ W', Calls Tryd.prog 42 #[.int .i32 r] W' fun e w' => ∃ (gd c : Nat) (og : Obj), e = .returned (.slice (some ⟨gd, 0, none⟩) 2 c) ∧ W'.heap.size ≤ gd ∧ w'.heap[gd]? = some og ∧ w'.cell? ⟨gd, 0, none⟩ = some (.int .i32 x) ∧ w'.cell? ⟨gd, 1, none⟩ = some (.int .i32 y) ∧ Below W'.heap.size W' w' := fun W' => (unidata_Decomp.calls r _ W' (decU_f r)).mono fun e w' ⟨v, he, hR, hb⟩ => by
    rw [hd] at hR
    obtain ⟨gd, c, rfl, h1, h2, cells, h3⟩ := Kd.R_form hR (by simp)
    exact ⟨gd, c, _, he, h1, h3, cell_of_R hR rfl, cell_of_R hR rfl, hb⟩
  clear hc hd
  refine (callsIn_wide (n := 12)).1 (callsIn_of_wp_marks Tryd.func41 rfl trivial ?_ rfl)
  simp only [Tryd.ntmps41, List.size_toArray, List.length_cons, List.length_nil, Nat.reduceAdd, Nat.reduceSub, Array.replicate_succ, Array.replicate_zero, List.push_toArray, List.append_toArray, List.nil_append, List.cons_append]
  gi_wp2_with (refine ⟨trivial, ?_⟩; gi_at_call 42; refine ((callsIn_wide (n := 11)).2 (hD _)).mono ?_; rintro e w2 ⟨gd, c, og, rfl, hgd, hog, hcd0, hcd1, hb⟩)
  have hb2 := below_step (below_alloc (Below.refl W.heap.size W) (.cells #[.func (.yield l) #[] #[]] 59)) hb
  have hbx : (W.alloc (.cells #[.func (.yield l) #[] #[]] 59)).heap[W.heap.size]? = some (.cells #[.func (.yield l) #[] #[]] 59 (0, 0)) := World.alloc_heap_new _ _
  have hoy : w2.heap[W.heap.size]? = some (.cells #[.func (.yield l) #[] #[]] 59 (0, 0)) := (hb.block _ (by simp)).trans hbx
  have hcy0 : w2.cell? ⟨W.heap.size, 0, none⟩ = some (.func (.yield l) #[] #[]) := by simp [World.cell?, hoy]
  rw [World.size_alloc] at hgd
  obtain ⟨Mn0, hMn0⟩ : ∃ Mn0 : Nat → Obj → Prop, Mn0 = fun k o => (k = W.heap.size ∧ o = .cells #[.func (.yield l) #[] #[]] 59 (0, 0)) ∨ (k = gd ∧ o = og) := ⟨_, rfl⟩
  have HMy0 : Mn0 W.heap.size (.cells #[.func (.yield l) #[] #[]] 59 (0, 0)) := by rw [hMn0]; exact .inl ⟨rfl, rfl⟩
  have HMg0 : Mn0 gd og := by rw [hMn0]; exact .inr ⟨rfl, rfl⟩
  have hS0 : ApS J W.heap.size Mn0 [] (fun _ => False) w2 := ⟨hJ _ _ _ _ h0 (Turned.of_below _ hb2), fun k h => h.elim, fun k o h => by
    rw [hMn0] at h
    rcases h with ⟨rfl, rfl⟩ | ⟨rfl, rfl⟩
    · exact ⟨Nat.le_refl _, fun h => h, hoy⟩
    · exact ⟨by omega, fun h => h, hog⟩⟩
  clear hMn0 hb hbx hc1
  have HN0 := hb2.size
  obtain ⟨O0, hO0⟩ : ∃ O0 : Nat → Prop, O0 = fun _ => False := ⟨_, rfl⟩
  rw [← hO0] at hS0
  clear hO0
  refine wpIn_loop_rounds 3 ?_
  rw [roundsIn_succ]
  have hcx0 : w2.cell? ⟨gd, 0, none⟩ = some (.int .i32 x) := (World.cell?_of_block ((hS0.m gd og HMg0).2.2.trans hog.symm)).trans hcd0
  gi_wp2_with (refine ⟨trivial, ?_⟩; gi_at_call 28; refine ((callsIn_wide (n := 11)).2 (apart_makes _ _)).mono ?_; rintro e w' ⟨rfl, rfl⟩)
  have hT0 := hS0.new hJ (below_alloc (Below.refl _ _) (.cells #[.int .i32 x] 21))
  have hcb0 : (w2.alloc (.cells #[.int .i32 x] 21)).cell? ⟨w2.heap.size, 0, none⟩ = some (.int .i32 x) := by simp
  have hsz0 : (w2.alloc (.cells #[.int .i32 x] 21)).heap.size = w2.heap.size + 1 := by simp
  have hnB0 : ¬ O0 w2.heap.size := fun h => Nat.lt_irrefl _ (hS0.o _ h).2
  have hM0 : ∀ k o, Mn0 k o → k < w2.heap.size := fun k o h => (Array.getElem?_eq_some_iff.1 (hS0.m k o h).2.2).1
  generalize w2.alloc (.cells #[.int .i32 x] 21) = V0 at hT0 hcb0 hsz0 ⊢
  refine wpIn_rangeFunc_gives (n := 12) (gf := 41) (lb := #[.pointer (some ⟨w2.heap.size, 0, none⟩)]) (a₁ := fun y_ => { tmps := #[.func (.yield l) #[] #[], .pointer (some ⟨Br, 0, none⟩), .pointer (some ⟨W.heap.size, 0, none⟩), .slice (some ⟨gd, 0, none⟩) 2 c, undef, .int .i32 x, .int .i32 y_, .int .i32 r, .slice (some ⟨gd, 0, none⟩) 2 c, .slice (some ⟨gd, 0, none⟩) 2 c, .int .i64 2, .bool false, undef, undef, undef, .slice (some ⟨gd, 0, none⟩) 2 c, .int .i64 2, .int .i64 0, .bool true, .pointer (some ⟨gd, 0, none⟩), .int .i32 x, .int .i32 x, .func (.func 41) #[] #[.pointer (some ⟨w2.heap.size, 0, none⟩)], .int .i32 y_, undef, undef, undef, undef, undef], defers := [] }) rfl eg (IH x (hdep x (by simp)) w2.heap.size V0 hcb0) (Below.refl _ _) (fun k h => by subst h; omega) (fun _ => rfl)
    (fun s O2 Wc => InI J W.heap.size V0.heap.size w2.heap.size Mn0 ([]) s O2 Wc)
    (fun c s O2 Wc => c = .ret ∧ InI Jx W.heap.size V0.heap.size w2.heap.size Mn0 ([]) s O2 Wc)
    (fun _ _ _ _ => trivial)
    (fun s O2 A B h ht => InI.abides hJ (by omega) (by omega) (fun k o hk => by have := hM0 k o hk; omega) h ht)
    (fun c s O2 A B h ht => ⟨h.1, InI.abides hJx (by omega) (by omega) (fun k o hk => by have := hM0 k o hk; omega) h.2 ht⟩)
    ⟨O0, by rw [List.append_nil]; exact hT0, fun k => ⟨fun h => h.elim, fun h => by have := (hS0.o k h.1).2; omega⟩, hnB0, Nat.le_refl _⟩
    ?assign0 ?body0 ?done0 ?stop0
  case assign0 =>
    intro l2 y Wa K hK
    gi_wp2
    exact hK
  case body0 =>
    rintro l2 s y O2 Wc ⟨O, hS, hO2, hnB, hz⟩ hN hOge hWge
    have hcy : Wc.cell? ⟨W.heap.size, 0, none⟩ = some (.func (.yield l) #[] #[]) := (World.cell?_of_block ((hS.m W.heap.size _ HMy0).2.2.trans hoy.symm)).trans hcy0
    obtain ⟨fn, tmps, assign, body, hy, hRd⟩ := hY ([] ++ s) y O Wc hS.j (by omega) hS.o (by rw [hap]; simp only [List.length_append, List.length_nil]; omega)
    gi_wp2
    refine (RoundIn.wide' hRd).mono ?_
    rintro e W' ⟨O', hr, ⟨rfl, hj⟩ | ⟨rfl, hj⟩⟩
    · gi_wp2
      obtain ⟨q1, q2⟩ := InI.round (J' := J) (Bx := w2.heap.size) (by omega) (by omega) (by omega) hS hO2 hnB hz hr hj
      exact ⟨_, q1, q2⟩
    · gi_wp2
      obtain ⟨q1, q2⟩ := InI.round (J' := Jx) (Bx := w2.heap.size) (by omega) (by omega) (by omega) hS hO2 hnB hz hr hj
      exact ⟨_, q1, rfl, q2⟩
  case stop0 =>
    rintro D cc s O2 Wc hD hnD _ ⟨rfl, O, hS, hO2, hnB, hz⟩ hK
    have hnO : ¬ O D := fun h => hnD ((hO2 D).2 ⟨h, hD⟩)
    gi_wp2
    have hT := hS.turn hJx (Turned.putObj (T := fun k => k = D) Wc (.deferred none) rfl) (fun k e => by subst e; exact ⟨by omega, hnO⟩) (fun k o hk e => by have := hM0 k o hk; omega)
    exact ⟨by simp, .inl ⟨_, _, rfl, run_takeDeferred hK, ⟨_, results_none rfl _ _ _, _, O, rfl, hT.o, .inr ⟨_, trivial, hT.j⟩⟩⟩⟩
  case done0 =>
    rintro D0 zs O2_ W0 hD0 hnD0 rfl ⟨O1, hS1, hO2, hnB, hz0⟩ hK0
    have hnO0 : ¬ O1 D0 := fun h => hnD0 ((hO2 _).2 ⟨h, hD0⟩)
    have HMg1 : (fun k x => Mn0 k x ∨ (k = D0 ∧ x = .deferred (some []))) gd og := .inl HMg0
    have HMy1 : (fun k x => Mn0 k x ∨ (k = D0 ∧ x = .deferred (some []))) W.heap.size (.cells #[.func (.yield l) #[] #[]] 59 (0, 0)) := .inl HMy0
    replace hS1 := hS1.more (D := D0) (o := .deferred (some [])) (by omega) hnO0 hK0
    gi_wp2
    rw [roundsIn_succ]

    have hcx1 : W0.cell? ⟨gd, 1, none⟩ = some (.int .i32 y) := (World.cell?_of_block ((hS1.m gd og HMg1).2.2.trans hog.symm)).trans hcd1
    gi_wp2_with (refine ⟨trivial, ?_⟩; gi_at_call 28; refine ((callsIn_wide (n := 11)).2 (apart_makes _ _)).mono ?_; rintro e w' ⟨rfl, rfl⟩)
    have hT1 := hS1.new hJ (below_alloc (Below.refl _ _) (.cells #[.int .i32 y] 21))
    have hcb1 : (W0.alloc (.cells #[.int .i32 y] 21)).cell? ⟨W0.heap.size, 0, none⟩ = some (.int .i32 y) := by simp
    have hsz1 : (W0.alloc (.cells #[.int .i32 y] 21)).heap.size = W0.heap.size + 1 := by simp
    have hnB1 : ¬ O1 W0.heap.size := fun h => Nat.lt_irrefl _ (hS1.o _ h).2
    have hM1 : ∀ k o, (fun k x => Mn0 k x ∨ (k = D0 ∧ x = .deferred (some []))) k o → k < W0.heap.size := fun k o h => (Array.getElem?_eq_some_iff.1 (hS1.m k o h).2.2).1
    generalize W0.alloc (.cells #[.int .i32 y] 21) = V1 at hT1 hcb1 hsz1 ⊢
    refine wpIn_rangeFunc_gives (n := 12) (gf := 41) (lb := #[.pointer (some ⟨W0.heap.size, 0, none⟩)]) (a₁ := fun y_ => { tmps := #[.func (.yield l) #[] #[], .pointer (some ⟨Br, 0, none⟩), .pointer (some ⟨W.heap.size, 0, none⟩), .slice (some ⟨gd, 0, none⟩) 2 c, undef, .int .i32 y, .int .i32 y_, .int .i32 r, .slice (some ⟨gd, 0, none⟩) 2 c, .slice (some ⟨gd, 0, none⟩) 2 c, .int .i64 2, .bool false, undef, undef, undef, .slice (some ⟨gd, 0, none⟩) 2 c, .int .i64 2, .int .i64 1, .bool true, .pointer (some ⟨gd, 1, none⟩), .int .i32 y, .int .i32 y, .func (.func 41) #[] #[.pointer (some ⟨W0.heap.size, 0, none⟩)], .int .i32 y_, undef, undef, undef, undef, .int .i64 1], defers := [] }) rfl eg (IH y (hdep y (by simp)) W0.heap.size V1 hcb1) (Below.refl _ _) (fun k h => by subst h; omega) (fun _ => rfl)
      (fun s O2 Wc => InI J W.heap.size V1.heap.size W0.heap.size (fun k x => Mn0 k x ∨ (k = D0 ∧ x = .deferred (some []))) ([] ++ apartK k x) s O2 Wc)
      (fun c s O2 Wc => c = .ret ∧ InI Jx W.heap.size V1.heap.size W0.heap.size (fun k x => Mn0 k x ∨ (k = D0 ∧ x = .deferred (some []))) ([] ++ apartK k x) s O2 Wc)
      (fun _ _ _ _ => trivial)
      (fun s O2 A B h ht => InI.abides hJ (by omega) (by omega) (fun k o hk => by have := hM1 k o hk; omega) h ht)
      (fun c s O2 A B h ht => ⟨h.1, InI.abides hJx (by omega) (by omega) (fun k o hk => by have := hM1 k o hk; omega) h.2 ht⟩)
      ⟨O1, by rw [List.append_nil]; exact hT1, fun k => ⟨fun h => h.elim, fun h => by have := (hS1.o k h.1).2; omega⟩, hnB1, Nat.le_refl _⟩
      ?assign1 ?body1 ?done1 ?stop1
    case assign1 =>
      intro l2 y Wa K hK
      gi_wp2
      exact hK
    case body1 =>
      rintro l2 s y O2 Wc ⟨O, hS, hO2, hnB, hz⟩ hN hOge hWge
      have hcy : Wc.cell? ⟨W.heap.size, 0, none⟩ = some (.func (.yield l) #[] #[]) := (World.cell?_of_block ((hS.m W.heap.size _ HMy1).2.2.trans hoy.symm)).trans hcy0
      obtain ⟨fn, tmps, assign, body, hy, hRd⟩ := hY ([] ++ apartK k x ++ s) y O Wc hS.j (by omega) hS.o (by rw [hap]; simp only [List.length_append, List.length_nil]; omega)
      gi_wp2
      refine (RoundIn.wide' hRd).mono ?_
      rintro e W' ⟨O', hr, ⟨rfl, hj⟩ | ⟨rfl, hj⟩⟩
      · gi_wp2
        obtain ⟨q1, q2⟩ := InI.round (J' := J) (Bx := W0.heap.size) (by omega) (by omega) (by omega) hS hO2 hnB hz hr hj
        exact ⟨_, q1, q2⟩
      · gi_wp2
        obtain ⟨q1, q2⟩ := InI.round (J' := Jx) (Bx := W0.heap.size) (by omega) (by omega) (by omega) hS hO2 hnB hz hr hj
        exact ⟨_, q1, rfl, q2⟩
    case stop1 =>
      rintro D cc s O2 Wc hD hnD _ ⟨rfl, O, hS, hO2, hnB, hz⟩ hK
      have hnO : ¬ O D := fun h => hnD ((hO2 D).2 ⟨h, hD⟩)
      gi_wp2
      have hT := hS.turn hJx (Turned.putObj (T := fun k => k = D) Wc (.deferred none) rfl) (fun k e => by subst e; exact ⟨by omega, hnO⟩) (fun k o hk e => by have := hM1 k o hk; omega)
      have hK' := (hT.m D0 _ (.inr ⟨rfl, rfl⟩))
      have hT2 := ApS.turn (Mn := fun k o => False) hJx ⟨hT.j, hT.o, fun _ _ h => h.elim⟩ (Turned.putObj (T := fun k => k = D0) _ (.deferred none) rfl) (fun k e => by subst e; exact ⟨hK'.1, hK'.2.1⟩) (fun k o hk e => hk)
      first | exact ⟨by simp, .inl ⟨_, _, rfl, run_takeDeferred hK, ⟨by simp, .inl ⟨_, _, rfl, run_takeDeferred hK'.2.2, ⟨_, results_none rfl _ _ _, _, O, rfl, hT2.o, .inr ⟨_, trivial, hT2.j⟩⟩⟩⟩⟩⟩ | exact ⟨by simp, .inl ⟨_, _, rfl, run_takeDeferred hK, ⟨by simp, .inl ⟨_, _, rfl, run_takeDeferred hK'.2.2, ⟨_, results_none rfl _ _ _, ⟨_, rfl⟩, O, hT2.o, .inr ⟨_, hT2.j⟩⟩⟩⟩⟩⟩
    case done1 =>
      rintro D1 zs O2_ W1 hD1 hnD1 rfl ⟨O2, hS2, hO2, hnB, hz1⟩ hK1
      have hnO1 : ¬ O2 D1 := fun h => hnD1 ((hO2 _).2 ⟨h, hD1⟩)
      gi_wp2
      rw [roundsIn_succ]
      gi_wp2
      have hT := hS2.turn hJ (Turned.putObj (T := fun k => k = D1) W1 (.deferred none) rfl) (fun k e => by subst e; exact ⟨by omega, hnO1⟩) (fun k o hk e => by have := hM1 k o hk; omega)
      have hK' := (hT.m D0 _ (.inr ⟨rfl, rfl⟩))
      have hT2 := ApS.turn (Mn := fun k o => False) hJ ⟨hT.j, hT.o, fun _ _ h => h.elim⟩ (Turned.putObj (T := fun k => k = D0) _ (.deferred none) rfl) (fun k e => by subst e; exact ⟨hK'.1, hK'.2.1⟩) (fun k o hk e => hk)
      exact ⟨by simp, .inl ⟨_, _, rfl, run_takeDeferred hK1, ⟨by simp, .inl ⟨_, _, rfl, run_takeDeferred hK'.2.2, ⟨_, results_none rfl _ _ _, _, O2, rfl, hT2.o, .inl ⟨_, by rw [hap]; simp, hT2.j⟩⟩⟩⟩⟩⟩

theorem apart_gives : ∀ k, GivesApart k
  | 0 => fun r h Br w hc => gives_none 0 r h Br w hc
  | k + 1 => fun r h Br w hc => by
    have hl := decU_len r
    match e : decU r with
    | [] => exact gives_none (k + 1) r e Br w hc
    | [x] => exact gives_1 k (apart_gives k) r x e (fun z hz => h z (by rw [e]; exact hz)) Br w hc
    | [x, y] => exact gives_2 k (apart_gives k) r x y e (fun z hz => h z (by rw [e]; exact hz)) Br w hc
    | _ :: _ :: _ :: _ => rw [e] at hl; simp at hl
end Go.Proofs.YtanpephfnjnfoaaDoor.Pr
end

section
namespace Go.Proofs.YtanpephfnjnfoaaDoor.Pr
open Go.RowKit Go.Proofs.YtanpephfnjnfoaaDoorW.PrintWords Go.Proofs.YtanpephfnjnfoaaDoorW.PrintLast Go.Proofs.YtanpephfnjnfoaaDoorW.PrintMore
set_option linter.unusedVariables false
set_option linter.unusedSimpArgs false

def depB : Nat → Int → Bool
  | 0, r => decU r == []
  | k + 1, r => (decU r).all (depB k)
theorem dep_of : ∀ (k : Nat) (r : Int), depB k r = true → Dep k r
  | 0, r, h => by show decU r = []; simpa [depB] using h
  | k + 1, r, h => fun x hx => dep_of k x (by simp only [depB, List.all_eq_true] at h; exact h x hx)
/-- All that has parts. -/
def ptsU : List Int := [8486, 8490, 8491] ++ (uP0 ++ uP1).map fun p => p.f0
theorem decU_pts {r : Int} (h : r ∉ ptsU) : decU r = [] := by
  have e : decU r = if r = 8486 then [937] else if r = 8490 then [75] else if r = 8491 then [197] else if (ofP fun x => x.f0 == r).2 = true then [(ofP fun x => x.f0 == r).1.f1, (ofP fun x => x.f0 == r).1.f2] else [] := rfl
  unfold ptsU at h
  simp only [List.mem_append, List.mem_cons, List.not_mem_nil, or_false, not_or, List.mem_map] at h
  obtain ⟨⟨h1, h2, h3⟩, h4⟩ := h
  rw [e, if_neg h1, if_neg h2, if_neg h3]
  have hf : (uP0 ++ uP1).find? (fun x => x.f0 == r) = none := by
    rw [List.find?_eq_none]
    intro p hp hpr
    exact h4 ⟨p, List.mem_append.1 hp, by simpa using hpr⟩
  have : (ofP fun x => x.f0 == r).2 = false := by unfold ofP; rw [hf]
  rw [if_neg (by rw [this]; decide)]
theorem dep_pts : ptsU.all (depB 4) = true := by decide +kernel
theorem dep4 (r : Int) : Dep 4 r := by
  by_cases h : r ∈ ptsU
  · exact dep_of 4 r (List.all_eq_true.1 dep_pts r h)
  · exact dep_nil (decU_pts h)
theorem apart_len (k : Nat) : ∀ r, (apartK k r).length ≤ 2 ^ k := by
  induction k with
  | zero => intro r; simp [apartK]
  | succ k ih =>
    intro r
    rw [apartK]
    split
    · have := Nat.one_le_two_pow (n := k + 1); simpa using this
    · have hl := decU_len r
      match e : decU r with
      | [] => simp
      | [x] => have := ih x; rw [List.flatMap_cons, List.flatMap_nil, List.append_nil, Nat.pow_succ]; omega
      | [x, y] => have h1 := ih x; have h2 := ih y; rw [List.flatMap_cons, List.flatMap_cons, List.flatMap_nil, List.append_nil, List.length_append, Nat.pow_succ]; omega
      | _ :: _ :: _ :: _ => rw [e] at hl; simp at hl
/-- A row taken apart. -/
def apL (l : List Int) : List Int := l.flatMap (apartK 4)
theorem apL_append (a b : List Int) : apL (a ++ b) = apL a ++ apL b := List.flatMap_append
theorem apL_len : ∀ l : List Int, (apL l).length ≤ 16 * l.length
  | [] => Nat.zero_le _
  | x :: l => by
    have h1 := apart_len 4 x
    have h2 := apL_len l
    have e : apL (x :: l) = apartK 4 x ++ apL l := rfl
    rw [e, List.length_append, List.length_cons]
    omega
def norm_NFD.f (l : List Int) : Option (List Int) := if l.length ≤ 60000 then some (ordM clsU (apL l)) else none
set_option maxRecDepth 100000 in
set_option maxHeartbeats 2000000 in
theorem nfd_any (A0 : Option Addr) (c0 : Nat) (l0 : List Int) (w : World) (hr0 : Kd.C (Kd.int .i32) w A0 l0.length l0) (hc0 : l0.length ≤ c0) (hl : l0.length ≤ 60000) :
    Calls Tryd.prog 13 #[.slice A0 l0.length c0] w fun e w' => ∃ v0_ : Value, e = .returned (v0_) ∧ Kd.R (Kd.int .i32) 21 w' w.heap.size (fun _ => True) v0_ (ordM clsU (apL l0)) ∧ Below w.heap.size w w' := by
  obtain ⟨n, hn⟩ : ∃ n, l0.length = n := ⟨_, rfl⟩
  rw [hn] at hl hr0 hc0 ⊢
  have HR := Aside0.mk hr0
  have HN := Aside0.mk hn
  clear hr0 hn
  have eg : ∀ args w, (callFunc 41 args).run Tryd.prog w = .ok (.enter 41 args) w := enters_of Tryd.func41 (by kernel_rfl) rfl
  go_enter Tryd.func13, Tryd.ntmps13
  go_wp2_with fail
  go_loopw [3, 8] (fun v vi wr => ∃ (i : Nat) (P : List Int), vi = .int .i64 (i : Int) ∧ i ≤ n ∧ Aside0 (P = apL (l0.take i)) ∧ Aside0 (wr.ownsRow w.heap.size 21 1 v P.length (P.map vR)) ∧ Aside0 (Below w.heap.size w wr)) (fun _ vi _ => n - (intOf vi).toNat)
  case atStart => exact ⟨0, [], by rfl, by omega, ⟨rfl⟩, ⟨World.ownsRow_nil w w.heap.size _ _⟩, ⟨Below.refl _ _⟩⟩
  case round =>
    obtain ⟨i, P, rfl, hin, HP, HW, HB⟩ := hrel
    by_cases hlt : i < n
    · obtain ⟨x, hx⟩ : ∃ x, l0[i]? = some x := ⟨_, List.getElem?_eq_getElem (by rw [HN.out]; exact hlt)⟩
      obtain ⟨ad, hA, hcell⟩ := HR.out.2.2 (by omega)
      subst hA
      have hcx : wr.cell? (ad.add i) = some (.int .i32 x) := by
        obtain ⟨c, hc1, hc2, hc3⟩ := hcell i x hx
        have hc2' : c = [Value.int .i32 x] := hc2
        have := hc3 0 (.int .i32 x) (by rw [hc2']; rfl)
        have e1 : i * (Kd.int .i32).sz + 0 = i := by show i * 1 + 0 = i; omega
        rw [e1] at this
        exact pw_cell_below HB.out this
      have hz : (i : Int) < (n : Int) := by omega
      have hPl : P.length ≤ 16 * n := by rw [HP.out]; have := apL_len (l0.take i); rw [List.length_take] at this; omega
      have hseq := apart_gives 4 x (dep4 x) wr.heap.size (wr.alloc (.cells #[.int .i32 x] 21)) (by simp)
      have hcall := appendSeq_any _ _ eg (fun j => j = wr.heap.size) w.heap.size _ P (apartK 4 x) (wr.alloc (.cells #[.int .i32 x] 21)) (HW.out.alloc _) (by have := HB.out.size; simp; omega) (fun k hk => by subst hk; exact ⟨HB.out.size, by simp, fun e => by have := (ownsRow_lt HW.out e).2; omega⟩) (by have := apart_len 4 x; omega) hseq
      have hcz : (Aside0 _) := Aside0.mk hcall
      have HP2 : Aside0 (P ++ apartK 4 x = apL (l0.take (i + 1))) := ⟨by
        rw [HP.out, List.take_add_one, hx, apL_append]
        simp [apL]⟩
      have hbx : Aside0 (wr.heap.size ≤ (wr.alloc (.cells #[.int .i32 x] 21)).heap.size) := ⟨by simp⟩
      clear hcall hseq HP HW hPl hcell hx
      go_wp2_with (first | (go_at_call 28; (with_reducible refine (apart_makes _ _).mono ?_); rintro e w' ⟨rfl, rfl⟩) | (go_at_call 27; (with_reducible refine hcz.out.mono ?_); rintro e w9 ⟨v9, rfl, hown9, hb9⟩; replace hown9 := Aside0.mk hown9; replace hb9 := Aside0.mk hb9))
      go_roundw
      case rel => exact ⟨i + 1, P ++ apartK 4 x, by go_num, by omega, HP2, hown9, ⟨(HB.out.alloc HB.out.size _).trans hb9.out⟩⟩
      case measure => simp [intOf]; omega
    · have hz : ¬ (i : Int) < (n : Int) := by omega
      have hPe : P = apL l0 := by rw [HP.out, List.take_of_length_le (by rw [HN.out]; omega)]
      have hPl : P.length ≤ 1000000 := by rw [hPe]; have := apL_len l0; rw [HN.out] at this; omega
      have hRr : Kd.R (Kd.int .i32) 21 wr w.heap.size (fun _ => True) _ P := ⟨fun _ _ => trivial, P.map encR, HW.out, ints_reps P⟩
      obtain ⟨A, c, hv⟩ := Kd.R_slice hRr
      subst hv
      obtain ⟨_, hPc, hC⟩ := Kd.R_reads' hRr
      have hord := order_any A c P wr hC hPc hPl
      rw [hPe] at hord
      have hPL : P.length = (apL l0).length := by rw [hPe]
      rw [hPL]
      replace hord := Aside0.mk hord
      clear hC hPc hRr HW HP hPe hPl hPL
      go_wp2_with (first | (go_at_call 11; (with_reducible refine hord.out.mono ?_); rintro e w9 ⟨v9, rfl, hR9, hb9⟩))
      go_ret
      exact ⟨_, rfl, Kd.R_lower hR9 HB.out.size, below_step HB.out hb9⟩
theorem norm_NFD.calls (A0 : Option Addr) (c0 : Nat) (l0 : List Int) (r : List Int) (w : World) (hr0 : Kd.C (Kd.int .i32) w A0 l0.length l0) (hc0 : l0.length ≤ c0) (h : norm_NFD.f l0 = some r) :
    Calls Tryd.prog 13 #[.slice A0 l0.length c0] w fun e w' => ∃ v0_ : Value, e = .returned (v0_) ∧ Kd.R (Kd.int .i32) 21 w' w.heap.size (fun _ => True) v0_ r ∧ Below w.heap.size w w' := by
  unfold norm_NFD.f at h
  split at h
  · next hl =>
    obtain rfl := Option.some.inj h
    exact nfd_any A0 c0 l0 w hr0 hc0 hl
  · cases h
end Go.Proofs.YtanpephfnjnfoaaDoor.Pr
end
