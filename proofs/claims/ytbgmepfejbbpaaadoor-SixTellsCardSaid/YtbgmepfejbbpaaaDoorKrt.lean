import Derived.Test.YtbgmepfejbbpaaaDoorGwr
namespace Go.Proofs.YtbgmepfejbbpaaaDoor.Pr
open Go.RowKit Go.Proofs.YtbgmepfejbbpaaaDoorW.PrintWords Go.Proofs.YtbgmepfejbbpaaaDoorW.PrintLast Go.Proofs.YtbgmepfejbbpaaaDoorW.PrintMore
set_option linter.unusedVariables false
set_option linter.unusedSimpArgs false

/-! ### The reference's Text -/
theorem rtK_len (L : List Nat) (h16 : ∀ n ∈ L, n < 65536) (b : Int × Nat) : ∀ i : Nat, (rtK L b i).length ≤ 20 * i
  | 0 => Nat.le_refl _
  | i + 1 => by
    have ih := rtK_len L h16 b i
    have hx : L.getD i 0 < 65536 := by
      rw [List.getD_eq_getElem?_getD]
      cases h : L[i]? with
      | none => decide
      | some x => exact h16 x (List.mem_of_getElem? h)
    have hd := digs_le16 4 _ (by decide) hx
    unfold rtK
    split
    · split
      · simp only [List.length_append, List.length_cons, List.length_nil]; omega
      · omega
    · split
      · simp only [List.length_append, List.length_cons, List.length_nil]; omega
      · simp only [List.length_append]; omega
theorem fmtcall (x : Nat) (hx : x < 65536) (W : World) (hG : WG W) : Calls Tryd.prog 17 #[.int .u64 (x : Int), .int .i64 16] W fun e w' => e = .returned (.string (mkB (digs 16 x))) ∧ Below W.heap.size W w' := by
  exact fmtUint16 x (by omega) W hG
set_option maxRecDepth 8000 in
set_option maxHeartbeats 4000000 in
theorem rt_any (L : List Nat) (hL : L.length = 8) (h16 : ∀ n ∈ L, n < 65536) (w : World) (hG : WG w) :
    Calls Tryd.prog 11 #[.agg (cs8 (pad8 L)).toArray] w fun e w' => e = .returned (.string (mkB (textF L))) ∧ Below w.heap.size w w' := by
  have hA : Aside0 (R8 (w.alloc (.cells (cs8 (pad8 L)).toArray 23)) w.heap.size 0 (pad8 L)) := ⟨⟨fun i hi => by
    rw [World.cell?_alloc_new, Nat.zero_add]
    rcases (by omega : i = 0 ∨ i = 1 ∨ i = 2 ∨ i = 3 ∨ i = 4 ∨ i = 5 ∨ i = 6 ∨ i = 7) with rfl | rfl | rfl | rfl | rfl | rfl | rfl | rfl <;> rfl, fun i hi => by rw [World.frozen?_alloc_new]⟩⟩
  have hB : Aside0 (Below w.heap.size w (w.alloc (.cells (cs8 (pad8 L)).toArray 23))) := ⟨below_alloc (Below.refl _ _) _⟩
  have HG := Aside0.mk (hG.keep hB.out)
  clear hG
  go_enter Tryd.func11, Tryd.ntmps11
  go_wp2_with fail
  have hlt : w.heap.size < (w.alloc (.cells (cs8 (pad8 L)).toArray 23)).heap.size := by simp
  generalize w.alloc (.cells (cs8 (pad8 L)).toArray 23) = W at hA hB hlt HG ⊢
  go_loop [3, 4, 5] (fun v3 v4 v5 => ∃ (a : Int) (m i : Nat), v3 = .int .i64 a ∧ v4 = .int .i64 (m : Int) ∧ v5 = .int .i64 (i : Int) ∧ i ≤ 8 ∧ -1 ≤ a ∧ a ≤ 7 ∧ 1 ≤ m ∧ m ≤ 8 ∧ Hid (bestF (L.drop i) i a m = bestF L 0 (-1) 1)) (fun _ _ v5 => 8 - (intOf v5).toNat)
  case atStart => exact ⟨-1, 1, 0, rfl, rfl, rfl, by omega, by omega, by omega, by omega, by omega, Lib.hid (by rw [List.drop_zero])⟩
  case round =>
    obtain ⟨a, m, i, rfl, rfl, rfl, hi8, ha1, ha7, hm1, hm8, HR⟩ := hrel
    by_cases hi : i < 8
    · have hst := bestG L i (by omega) a m
      rw [HR.out] at hst
      have HS := Lib.hid hst
      have hib : decide ((i : Int) < 8) = true := decide_eq_true (by omega)
      have hib2 : decide (i < 8) = true := decide_eq_true hi
      clear hst HR
      go_wp2_with fail
      go_loop [6] (fun v6 => ∃ n : Nat, v6 = .int .i64 (n : Int) ∧ i + n ≤ 8 ∧ Hid (runZ (L.drop i) = n + runZ (L.drop (i + n)))) (fun v6 => 8 - (intOf v6).toNat)
      case atStart => exact ⟨0, rfl, by omega, Lib.hid (by simp)⟩
      case round =>
        obtain ⟨n, rfl, hn, HZ⟩ := hrel
        have hend : runZ (L.drop i) = n → ((decide ((m : Int) < (n : Int)) = true ∧ decide (m < n) = true ∧ Aside0 (bestF (L.drop (i + 1)) (i + 1) (i : Int) n = bestF L 0 (-1) 1) ∧ m < n) ∨ (decide ((m : Int) < (n : Int)) = false ∧ decide (m < n) = false ∧ Aside0 (bestF (L.drop (i + 1)) (i + 1) a m = bestF L 0 (-1) 1))) := fun e => by
          have h := HS.out
          rw [e] at h
          by_cases hmn : m < n
          · rw [if_pos hmn] at h
            exact .inl ⟨decide_eq_true (by omega), decide_eq_true hmn, ⟨h.symm⟩, hmn⟩
          · rw [if_neg hmn] at h
            exact .inr ⟨decide_eq_false (by omega), decide_eq_false hmn, ⟨h.symm⟩⟩
        by_cases h8 : i + n = 8
        · have e8 : decide ((i : Int) + (n : Int) < 8) = false := decide_eq_false (by omega)
          have hz : runZ (L.drop i) = n := by rw [HZ.out, h8, List.drop_of_length_le (by omega)]; rfl
          rcases hend hz with ⟨m1, m2, HS2, hmn⟩ | ⟨m1, m2, HS2⟩
          · clear hend hz HS HZ
            go_wp2_with fail
            refine ⟨⟨(i : Int), n, i + 1, rfl, rfl, rfl, by omega, by omega, by omega, by omega, by omega, Lib.hid HS2.out⟩, by simp [intOf]; omega⟩
          · clear hend hz HS HZ
            go_wp2_with fail
            refine ⟨⟨a, m, i + 1, rfl, rfl, rfl, by omega, by omega, by omega, by omega, by omega, Lib.hid HS2.out⟩, by simp [intOf]; omega⟩
        · have e8 : decide ((i : Int) + (n : Int) < 8) = true := decide_eq_true (by omega)
          have hcell := hA.out.at_ (i + n) (by omega)
          rw [Nat.zero_add] at hcell
          have hpd : pad8 L (i + n) = L[i + n] := by unfold pad8; rw [List.getD_eq_getElem?_getD, List.getElem?_eq_getElem (by omega)]; rfl
          rw [hpd] at hcell
          have hzr := runZ_drop L (i + n) (by omega)
          generalize L[i + n] = x at hcell hzr
          clear hpd
          by_cases hx : x = 0
          · subst hx
            rw [if_pos rfl] at hzr
            have HZ2 := Lib.hid (show runZ (L.drop i) = (n + 1) + runZ (L.drop (i + (n + 1))) by rw [HZ.out, hzr, show i + (n + 1) = i + n + 1 by omega]; omega)
            clear hzr HZ hend
            go_wp2_with fail
            refine ⟨⟨n + 1, rfl, by omega, HZ2⟩, by simp [intOf]; omega⟩
          · rw [if_neg hx] at hzr
            have hz : runZ (L.drop i) = n := by rw [HZ.out, hzr]; rfl
            have x1 : ((x : Int) == 0) = false := beq_eq_false_iff_ne.2 (by omega)
            have x2 : ¬ (x : Int) = 0 := by omega
            rcases hend hz with ⟨m1, m2, HS2, hmn⟩ | ⟨m1, m2, HS2⟩
            · clear hend hz HS HZ hzr
              go_wp2_with fail
              refine ⟨⟨(i : Int), n, i + 1, rfl, rfl, rfl, by omega, by omega, by omega, by omega, by omega, Lib.hid HS2.out⟩, by simp [intOf]; omega⟩
            · clear hend hz HS HZ hzr
              go_wp2_with fail
              refine ⟨⟨a, m, i + 1, rfl, rfl, rfl, by omega, by omega, by omega, by omega, by omega, Lib.hid HS2.out⟩, by simp [intOf]; omega⟩
    · obtain rfl : i = 8 := by omega
      have hbe : bestF L 0 (-1) 1 = (a, m) := by rw [← HR.out, List.drop_of_length_le (by omega)]; rfl
      have hbp := (best_all L).1
      have htx := textF_ref L
      rw [hbe] at hbp htx
      rw [hL] at htx
      have HT := Aside0.mk htx
      have hib : decide (((8 : Nat) : Int) < 8) = false := by decide
      clear hbe HR htx
      have HLen := Aside0.mk (rtK_len L h16 (a, m))
      go_wp2_with fail
      clear hib
      go_loopw [7, 8] (fun v7 v8 wx => ∃ i : Nat, v8 = .int .i64 (i : Int) ∧ i ≤ 8 ∧ v7 = .string (mkB (rtK L (a, m) i)) ∧ Aside0 (Below W.heap.size W wx)) (fun _ v8 _ => 8 - (intOf v8).toNat)
      case atStart => exact ⟨0, rfl, by omega, rfl, ⟨Below.refl _ _⟩⟩
      case round =>
        obtain ⟨i, rfl, hi8, rfl, hD⟩ := hrel
        by_cases hi : i < 8
        · have hib : decide ((i : Int) < 8) = true := decide_eq_true (by omega)
          have hib2 : decide (i < 8) = true := decide_eq_true hi
          have hcell := (hA.out.keep hD.out hlt).at_ i hi
          rw [Nat.zero_add] at hcell
          have hx16 : pad8 L i < 65536 := by
            unfold pad8
            rw [List.getD_eq_getElem?_getD, List.getElem?_eq_getElem (by omega)]
            exact h16 _ (List.getElem_mem _)
          have hdl := digs_le16 4 _ (by decide) hx16
          have hz0 := HLen.out i
          have HST : Aside0 (rtK L (a, m) (i + 1) = if 0 ≤ a ∧ a ≤ (i : Int) ∧ (i : Int) < a + (m : Int) then (if (i : Int) = a then rtK L (a, m) i ++ [58, 58] else rtK L (a, m) i) else (if 0 < i ∧ ((i : Int) ≠ a + (m : Int) ∨ a < 0) then (rtK L (a, m) i ++ [58]) ++ digs 16 (pad8 L i) else rtK L (a, m) i ++ digs 16 (pad8 L i))) := ⟨rfl⟩
          generalize rtK L (a, m) i = t at hz0 HST
          generalize pad8 L i = x at hcell hx16 hdl HST
          have HF := Aside0.mk (fmtcall x hx16)
          have HGx := Aside0.mk (HG.out.keep hD.out)
          have hwr : IntKind.u64.wrap (x : Int) = (x : Int) := by
            show (x : Int) % 18446744073709551616 = (x : Int)
            omega
          replace HST := HST.out
          have hz1 : (9223372036854775807 < (mkB t).size + 1) = False := eq_false (by rw [mkB_size]; omega)
          have hz2 : (9223372036854775807 < (mkB t).size + 2) = False := eq_false (by rw [mkB_size]; omega)
          have hz3 : (9223372036854775807 < (mkB t).size + 1 + (mkB (digs 16 x)).size) = False := eq_false (by rw [mkB_size, mkB_size]; omega)
          have hz4 : (9223372036854775807 < (mkB t).size + (mkB (digs 16 x)).size) = False := eq_false (by rw [mkB_size, mkB_size]; omega)
          have hm2 : 0 ≤ a → 2 ≤ m := fun h => by
            rcases hbp with ⟨h1, _⟩ | ⟨_, h2, _⟩
            · simp only at h1; omega
            · exact h2
          have hm3 : a < 0 → a = -1 ∧ m = 1 := fun h => by
            rcases hbp with ⟨h1, h2⟩ | ⟨h1, _⟩
            · exact ⟨h1, h2⟩
            · simp only at h1; omega
          clear hbp hdl hz0
          by_cases ha : a < 0
          · have F1 : decide (0 ≤ a) = false := decide_eq_false (by omega)
            have G3 : decide (a < 0) = true := decide_eq_true ha
            obtain ⟨hm4, hm5⟩ := hm3 ha
            by_cases h0 : i = 0
            · have G1 : decide ((0 : Int) < (i : Int)) = false := decide_eq_false (by omega)
              have G1' : decide (0 < i) = false := decide_eq_false (by omega)
              rw [if_neg (by omega), if_neg (by omega)] at HST
              replace HST := Aside0.mk HST
              try clear hm2 hm3
              try clear hm4 hm5
              try clear hm6
              try clear h0
              try clear h3
              try clear h4
              go_wp2_with (go_at_call 17; refine (HF.out _ HGx.out).mono ?_; rintro e w2 ⟨rfl, hb2⟩; replace hD := Aside0.mk (below_step hD.out hb2); clear hb2)
              exact ⟨⟨i + 1, by go_num, by omega, by rw [HST.out, mkB_append], hD⟩, by simp [intOf]; omega⟩
            · have G1 : decide ((0 : Int) < (i : Int)) = true := decide_eq_true (by omega)
              have G1' : decide (0 < i) = true := decide_eq_true (by omega)
              have G2 : ((i : Int) == a + (m : Int)) = false := beq_eq_false_iff_ne.2 (by omega)
              have G2' : ((i : Int) != a + (m : Int)) = true := bne_iff_ne.2 (by omega)
              rw [if_neg (by omega), if_pos (by omega)] at HST
              replace HST := Aside0.mk HST
              try clear hm2 hm3
              try clear hm4 hm5
              try clear hm6
              try clear h0
              try clear h3
              try clear h4
              go_wp2_with (go_at_call 17; refine (HF.out _ HGx.out).mono ?_; rintro e w2 ⟨rfl, hb2⟩; replace hD := Aside0.mk (below_step hD.out hb2); clear hb2)
              exact ⟨⟨i + 1, by go_num, by omega, by rw [HST.out, show (⟨#[58]⟩ : ByteArray) = mkB [58] from rfl, mkB_append, mkB_append], hD⟩, by simp [intOf]; omega⟩
          · have F1 : decide (0 ≤ a) = true := decide_eq_true (by omega)
            have G3 : decide (a < 0) = false := decide_eq_false ha
            have hm6 := hm2 (by omega)
            by_cases h1 : (i : Int) < a
            · have F2 : decide (a ≤ (i : Int)) = false := decide_eq_false (by omega)
              by_cases h0 : i = 0
              · have G1 : decide ((0 : Int) < (i : Int)) = false := decide_eq_false (by omega)
                have G1' : decide (0 < i) = false := decide_eq_false (by omega)
                rw [if_neg (by omega), if_neg (by omega)] at HST
                replace HST := Aside0.mk HST
                try clear hm2 hm3
                try clear hm4 hm5
                try clear hm6
                try clear h0
                try clear h3
                try clear h4
                go_wp2_with (go_at_call 17; refine (HF.out _ HGx.out).mono ?_; rintro e w2 ⟨rfl, hb2⟩; replace hD := Aside0.mk (below_step hD.out hb2); clear hb2)
                exact ⟨⟨i + 1, by go_num, by omega, by rw [HST.out, mkB_append], hD⟩, by simp [intOf]; omega⟩
              · have G1 : decide ((0 : Int) < (i : Int)) = true := decide_eq_true (by omega)
                have G1' : decide (0 < i) = true := decide_eq_true (by omega)
                have G2 : ((i : Int) == a + (m : Int)) = false := beq_eq_false_iff_ne.2 (by omega)
                have G2' : ((i : Int) != a + (m : Int)) = true := bne_iff_ne.2 (by omega)
                rw [if_neg (by omega), if_pos (by omega)] at HST
                replace HST := Aside0.mk HST
                try clear hm2 hm3
                try clear hm4 hm5
                try clear hm6
                try clear h0
                try clear h3
                try clear h4
                go_wp2_with (go_at_call 17; refine (HF.out _ HGx.out).mono ?_; rintro e w2 ⟨rfl, hb2⟩; replace hD := Aside0.mk (below_step hD.out hb2); clear hb2)
                exact ⟨⟨i + 1, by go_num, by omega, by rw [HST.out, show (⟨#[58]⟩ : ByteArray) = mkB [58] from rfl, mkB_append, mkB_append], hD⟩, by simp [intOf]; omega⟩
            · have F2 : decide (a ≤ (i : Int)) = true := decide_eq_true (by omega)
              by_cases h2 : (i : Int) < a + (m : Int)
              · have F3 : decide ((i : Int) < a + (m : Int)) = true := decide_eq_true h2
                rw [if_pos (by omega)] at HST
                by_cases h3 : (i : Int) = a
                · have F4 : ((i : Int) == a) = true := beq_iff_eq.2 h3
                  rw [if_pos h3] at HST
                  replace HST := Aside0.mk HST
                  try clear hm2 hm3
                  try clear hm4 hm5
                  try clear hm6
                  try clear h0
                  try clear h3
                  try clear h4
                  go_wp2_with fail
                  exact ⟨⟨i + 1, by go_num, by omega, by rw [HST.out, show (⟨#[58, 58]⟩ : ByteArray) = mkB [58, 58] from rfl, mkB_append], hD⟩, by simp [intOf]; omega⟩
                · have F4 : ((i : Int) == a) = false := beq_eq_false_iff_ne.2 h3
                  rw [if_neg h3] at HST
                  replace HST := Aside0.mk HST
                  try clear hm2 hm3
                  try clear hm4 hm5
                  try clear hm6
                  try clear h0
                  try clear h3
                  try clear h4
                  go_wp2_with fail
                  exact ⟨⟨i + 1, by go_num, by omega, by rw [HST.out], hD⟩, by simp [intOf]; omega⟩
              · have F3 : decide ((i : Int) < a + (m : Int)) = false := decide_eq_false h2
                have G1 : decide ((0 : Int) < (i : Int)) = true := decide_eq_true (by omega)
                have G1' : decide (0 < i) = true := decide_eq_true (by omega)
                by_cases h4 : (i : Int) = a + (m : Int)
                · have G2 : ((i : Int) == a + (m : Int)) = true := beq_iff_eq.2 h4
                  have G2' : ((i : Int) != a + (m : Int)) = false := bne_eq_false_iff_eq.2 h4
                  rw [if_neg (by omega), if_neg (by omega)] at HST
                  replace HST := Aside0.mk HST
                  try clear hm2 hm3
                  try clear hm4 hm5
                  try clear hm6
                  try clear h0
                  try clear h3
                  try clear h4
                  go_wp2_with (go_at_call 17; refine (HF.out _ HGx.out).mono ?_; rintro e w2 ⟨rfl, hb2⟩; replace hD := Aside0.mk (below_step hD.out hb2); clear hb2)
                  exact ⟨⟨i + 1, by go_num, by omega, by rw [HST.out, mkB_append], hD⟩, by simp [intOf]; omega⟩
                · have G2 : ((i : Int) == a + (m : Int)) = false := beq_eq_false_iff_ne.2 h4
                  have G2' : ((i : Int) != a + (m : Int)) = true := bne_iff_ne.2 h4
                  rw [if_neg (by omega), if_pos (by omega)] at HST
                  replace HST := Aside0.mk HST
                  try clear hm2 hm3
                  try clear hm4 hm5
                  try clear hm6
                  try clear h0
                  try clear h3
                  try clear h4
                  go_wp2_with (go_at_call 17; refine (HF.out _ HGx.out).mono ?_; rintro e w2 ⟨rfl, hb2⟩; replace hD := Aside0.mk (below_step hD.out hb2); clear hb2)
                  exact ⟨⟨i + 1, by go_num, by omega, by rw [HST.out, show (⟨#[58]⟩ : ByteArray) = mkB [58] from rfl, mkB_append, mkB_append], hD⟩, by simp [intOf]; omega⟩
        · obtain rfl : i = 8 := by omega
          have hib : decide (((8 : Nat) : Int) < 8) = false := by decide
          go_wp2_with fail
          go_ret
          exact ⟨by rw [HT.out]; rfl, below_then hB.out hB.out.size hD.out⟩
end Go.Proofs.YtbgmepfejbbpaaaDoor.Pr
