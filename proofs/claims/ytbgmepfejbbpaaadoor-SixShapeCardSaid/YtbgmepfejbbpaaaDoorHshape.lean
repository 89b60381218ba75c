import Derived.Test.YtbgmepfejbbpaaaDoorHcom
import Derived.Test.YtbgmepfejbbpaaaDoorGshp
namespace Go.Proofs.YtbgmepfejbbpaaaDoor.Pr
open Go.RowKit Go.Proofs.YtbgmepfejbbpaaaDoorW.PrintWords Go.Proofs.YtbgmepfejbbpaaaDoorW.PrintLast Go.Proofs.YtbgmepfejbbpaaaDoorW.PrintMore
set_option linter.unusedVariables false
set_option linter.unusedSimpArgs false

/-! ### SixShape -/
def prevAt (s : List UInt8) (i : Nat) : UInt8 := if i = 0 then 0 else s.getD (i - 1) 0
theorem prev_succ (s : List UInt8) (i : Nat) (hi : i < s.length) : prevAt s (i + 1) = s[i] := by
  unfold prevAt
  rw [if_neg (by omega), show i + 1 - 1 = i by omega, List.getD_eq_getElem?_getD, List.getElem?_eq_getElem hi]
  rfl
theorem prev_idx (s : List UInt8) (i : Nat) (h0 : 0 < i) (hi : i < s.length) (w : World) : (Instr.index 9 (.string (mkB s)) (.int .i64 ((i : Int) - 1))).run Tryd.prog w = .ok (.int .u8 ((prevAt s i).toNat : Int)) w := by
  have e : prevAt s i = s[i - 1] := by
    unfold prevAt
    rw [if_neg (by omega), List.getD_eq_getElem?_getD, List.getElem?_eq_getElem (by omega)]
    rfl
  rw [show (i : Int) - 1 = ((i - 1 : Nat) : Int) by omega, e]
  exact idx_mkB s (i - 1) (by omega) w
theorem shp_drop (s : List UInt8) (i : Nat) (hi : i < s.length) (pv : UInt8) (p r : Nat) : shp (s.drop i) pv p r = if s[i] = 58 then shp (s.drop (i + 1)) s[i] (if pv = 58 then p + 1 else p) 0 else if hexlow s[i] = true then (if 4 < r + 1 ∨ (r + 1 = 2 ∧ pv = 48) then none else shp (s.drop (i + 1)) s[i] p (r + 1)) else none := by
  rw [List.drop_eq_getElem_cons hi]; rfl
set_option maxRecDepth 8000 in
set_option maxHeartbeats 4000000 in
theorem shape_go (L : List Nat) (hL : L.length = 8) (h16 : ∀ n ∈ L, n < 65536) (w : World) (hG : WG w) :
    Calls Tryd.prog 5 #[.agg (cs8 (pad8 L)).toArray] w fun e w' => e = .returned (.bool true) ∧ Below w.heap.size w w' := by
  have HB : Aside0 (Below w.heap.size w (w.alloc (.cells (cs8 (pad8 L)).toArray 23))) := ⟨below_alloc (Below.refl _ _) _⟩
  have HA := Aside0.mk (R8.boxed w (pad8 L))
  have hlt0 : w.heap.size < (w.alloc (.cells (cs8 (pad8 L)).toArray 23)).heap.size := by simp
  have HG := Aside0.mk hG
  clear hG
  have HT := Aside0.mk (fun W => text_any L hL h16 W)
  obtain ⟨P, hsh, hP, hl2, hl39⟩ := shape_ok L hL h16
  generalize textF L = s at HT hsh hl2 hl39
  have HP := Aside0.mk hP
  have HS := Lib.hid hsh
  have hP1 : P ≤ 1 := by rcases hP with ⟨h, _⟩ | ⟨h, _⟩ <;> omega
  clear hP hsh
  have hsz := mkB_size s
  go_enter Tryd.func5, Tryd.ntmps5
  go_upto_region 1 with (fail)
  generalize w.alloc (.cells (cs8 (pad8 L)).toArray 23) = W at HA HB hlt0 ⊢
  go_upto_block 0 with (first | (with_reducible refine wpList_load_mid rfl 23 _ rfl w.heap.size 0 rfl (cs8 (pad8 L)) _ HA.out.range Tryd.underlying23 rfl (info8c _) ?_) | (go_at_call 10; with_reducible refine (HT.out _ (HG.out.keep HB.out)).mono ?_; rintro e w1 ⟨rfl, hb1⟩; replace HB := Aside0.mk (below_step HB.out hb1); replace HA := Aside0.mk (HA.out.keep hb1 hlt0); clear hb1))
  clear HT hlt0
  go_wp2_with fail
  go_loop [4, 5, 6] (fun v4 v5 v6 => ∃ (p r i : Nat), v4 = .int .i64 (p : Int) ∧ v5 = .int .i64 (r : Int) ∧ v6 = .int .i64 (i : Int) ∧ i ≤ s.length ∧ p ≤ i ∧ r ≤ i ∧ r ≤ 4 ∧ Hid (shp (s.drop i) (prevAt s i) p r = some P)) (fun _ _ v6 => s.length - (intOf v6).toNat)
  case atStart => exact ⟨0, 0, 0, rfl, rfl, rfl, by omega, by omega, by omega, by omega, Lib.hid (by rw [List.drop_zero]; exact HS.out)⟩
  case round =>
    clear HS
    obtain ⟨p, r, i, rfl, rfl, rfl, hi8, hp, hr, hr4, HS⟩ := hrel
    by_cases hi : i < s.length
    · have hst := shp_drop s i hi (prevAt s i) p r
      rw [HS.out] at hst
      have hpv := prev_succ s i hi
      have x1 := idx_mkB s i hi
      have k1 : decide ((i : Int) < ((mkB s).size : Int)) = true := decide_eq_true (by omega)
      have k2 : decide (i < (mkB s).size) = true := decide_eq_true (by omega)
      generalize s[i] = c at hst hpv x1
      clear HS
      by_cases hc : c = 58
      · rw [if_pos hc] at hst
        have c1 : ((c.toNat : Int) == 58) = true := by rw [hc]; rfl
        have c2 : ((c.toNat : Int) != 58) = false := by rw [hc]; rfl
        by_cases hi0 : i = 0
        · have e0 : prevAt s i = 0 := by rw [hi0]; rfl
          rw [e0, if_neg (by decide), ← hpv] at hst
          have HS2 := Lib.hid hst.symm
          have g1 : decide ((0 : Int) < (i : Int)) = false := decide_eq_false (by omega)
          have g2 : decide (0 < i) = false := decide_eq_false (by omega)
          clear hst hpv hc e0 hi0
          go_wp2_with fail
          exact ⟨⟨p, 0, i + 1, rfl, by go_num, by go_num, by omega, by omega, by omega, by omega, HS2⟩, by simp [intOf]; omega⟩
        · have g1 : decide ((0 : Int) < (i : Int)) = true := decide_eq_true (by omega)
          have g2 : decide (0 < i) = true := decide_eq_true (by omega)
          have x2 := prev_idx s i (by omega) hi
          rw [← hpv] at hst
          by_cases h58 : prevAt s i = 58
          · rw [if_pos h58] at hst
            have q1 : (((prevAt s i).toNat : Int) == 58) = true := by rw [h58]; rfl
            have HS2 := Lib.hid hst.symm
            clear hst hpv hc hi0 h58
            generalize prevAt s i = pv at x2 q1
            go_wp2_with fail
            exact ⟨⟨p + 1, 0, i + 1, by go_num, by go_num, by go_num, by omega, by omega, by omega, by omega, HS2⟩, by simp [intOf]; omega⟩
          · rw [if_neg h58] at hst
            have q1 : (((prevAt s i).toNat : Int) == 58) = false := beq_eq_false_iff_ne.2 fun e => h58 (UInt8.toNat_inj.1 (by show (prevAt s i).toNat = 58; omega))
            have HS2 := Lib.hid hst.symm
            clear hst hpv hc hi0 h58
            generalize prevAt s i = pv at x2 q1
            go_wp2_with fail
            exact ⟨⟨p, 0, i + 1, rfl, by go_num, by go_num, by omega, by omega, by omega, by omega, HS2⟩, by simp [intOf]; omega⟩
      · have hcn : ¬ c.toNat = 58 := fun e => hc (UInt8.toNat_inj.1 e)
        have c1 : ((c.toNat : Int) == 58) = false := beq_eq_false_iff_ne.2 (by omega)
        have c2 : ((c.toNat : Int) != 58) = true := bne_iff_ne.2 (by omega)
        rw [if_neg hc] at hst
        by_cases hlow : hexlow c = true
        · rw [if_pos hlow] at hst
          by_cases hck : 4 < r + 1 ∨ (r + 1 = 2 ∧ prevAt s i = 48)
          · rw [if_pos hck] at hst; cases hst
          · rw [if_neg hck, ← hpv] at hst
            have HS2 := Lib.hid hst.symm
            have m1 : decide ((4 : Int) < (r : Int) + 1) = false := decide_eq_false (by omega)
            have m2 : decide (4 < r + 1) = false := decide_eq_false (by omega)
            have hr5 : r + 1 ≤ 4 := by omega
            have hways : (48 ≤ c.toNat ∧ c.toNat ≤ 57) ∨ (97 ≤ c.toNat ∧ c.toNat ≤ 102) := by
              unfold hexlow at hlow
              simp only [Bool.or_eq_true, Bool.and_eq_true, decide_eq_true_eq] at hlow
              exact hlow
            clear hst hpv hc hlow hcn
            rcases hways with ⟨w1, w2⟩ | ⟨w1, w2⟩
            · have a1 : decide ((48 : Int) ≤ (c.toNat : Int)) = true := decide_eq_true (by omega)
              have a2 : decide (48 ≤ c.toNat) = true := decide_eq_true (by omega)
              have a3 : decide ((c.toNat : Int) ≤ 57) = true := decide_eq_true (by omega)
              have a4 : decide (c.toNat ≤ 57) = true := decide_eq_true (by omega)
              clear w1 w2
              by_cases hr2 : r + 1 = 2
              · have hp48 : prevAt s i ≠ 48 := fun e => hck (.inr ⟨hr2, e⟩)
                have q1 : (((prevAt s i).toNat : Int) == 48) = false := beq_eq_false_iff_ne.2 fun e => hp48 (UInt8.toNat_inj.1 (by show (prevAt s i).toNat = 48; omega))
                have hi0 : 0 < i := by omega
                have x2 := prev_idx s i hi0 (by omega)
                have r2 : ((r : Int) + 1 == 2) = true := by rw [beq_iff_eq]; omega
                clear hp48 hck hr2
                generalize prevAt s i = pv at x2 q1
                go_wp2_with fail
                exact ⟨⟨p, r + 1, i + 1, rfl, by go_num, by go_num, by omega, by omega, by omega, by omega, HS2⟩, by simp [intOf]; omega⟩
              · have r2 : ((r : Int) + 1 == 2) = false := beq_eq_false_iff_ne.2 (by omega)
                clear hck
                go_wp2_with fail
                exact ⟨⟨p, r + 1, i + 1, rfl, by go_num, by go_num, by omega, by omega, by omega, by omega, HS2⟩, by simp [intOf]; omega⟩
            · have a1 : decide ((48 : Int) ≤ (c.toNat : Int)) = true := decide_eq_true (by omega)
              have a2 : decide (48 ≤ c.toNat) = true := decide_eq_true (by omega)
              have a3 : decide ((c.toNat : Int) ≤ 57) = false := decide_eq_false (by omega)
              have a4 : decide (c.toNat ≤ 57) = false := decide_eq_false (by omega)
              have a5 : decide ((97 : Int) ≤ (c.toNat : Int)) = true := decide_eq_true (by omega)
              have a6 : decide (97 ≤ c.toNat) = true := decide_eq_true (by omega)
              have a7 : decide ((c.toNat : Int) ≤ 102) = true := decide_eq_true (by omega)
              have a8 : decide (c.toNat ≤ 102) = true := decide_eq_true (by omega)
              clear w1 w2
              by_cases hr2 : r + 1 = 2
              · have hp48 : prevAt s i ≠ 48 := fun e => hck (.inr ⟨hr2, e⟩)
                have q1 : (((prevAt s i).toNat : Int) == 48) = false := beq_eq_false_iff_ne.2 fun e => hp48 (UInt8.toNat_inj.1 (by show (prevAt s i).toNat = 48; omega))
                have hi0 : 0 < i := by omega
                have x2 := prev_idx s i hi0 (by omega)
                have r2 : ((r : Int) + 1 == 2) = true := by rw [beq_iff_eq]; omega
                clear hp48 hck hr2
                generalize prevAt s i = pv at x2 q1
                go_wp2_with fail
                exact ⟨⟨p, r + 1, i + 1, rfl, by go_num, by go_num, by omega, by omega, by omega, by omega, HS2⟩, by simp [intOf]; omega⟩
              · have r2 : ((r : Int) + 1 == 2) = false := beq_eq_false_iff_ne.2 (by omega)
                clear hck
                go_wp2_with fail
                exact ⟨⟨p, r + 1, i + 1, rfl, by go_num, by go_num, by omega, by omega, by omega, by omega, HS2⟩, by simp [intOf]; omega⟩
        · rw [if_neg hlow] at hst; cases hst
    · obtain rfl : i = s.length := by omega
      have hend := HS.out
      rw [List.drop_length] at hend
      obtain rfl : p = P := Option.some.inj hend
      have k1 : decide ((s.length : Int) < ((mkB s).size : Int)) = false := decide_eq_false (by omega)
      have k2 : decide (s.length < (mkB s).size) = false := decide_eq_false (by omega)
      clear hend HS
      go_wp2_with fail
      clear k1 k2
      go_loop [8, 9] (fun v8 v9 => ∃ i : Nat, v8 = .bool (zK L i) ∧ v9 = .int .i64 (i : Int) ∧ i ≤ 7) (fun _ v9 => 7 - (intOf v9).toNat)
      case atStart => exact ⟨0, rfl, rfl, by omega⟩
      case round =>
        obtain ⟨i, rfl, rfl, hi7⟩ := hrel
        by_cases hi : i < 7
        · have j1 : decide ((i : Int) + 1 < 8) = true := decide_eq_true (by omega)
          have j2 : decide (i + 1 < 8) = true := decide_eq_true (by omega)
          have hz : zK L (i + 1) = (zK L i || (decide (pad8 L i = 0) && decide (pad8 L (i + 1) = 0))) := rfl
          have ha := HA.out.at_ i (by omega)
          have hb := HA.out.at_ (i + 1) (by omega)
          rw [Nat.zero_add] at ha hb
          have hib : (((i : Int) + 1).toNat) = i + 1 := by omega
          generalize pad8 L i = x at ha hz
          generalize pad8 L (i + 1) = y at hb hz
          generalize zK L i = z at hz
          cases z with
          | true =>
            rw [Bool.true_or] at hz
            replace hz := Aside0.mk hz
            go_wp2_with fail
            exact ⟨⟨i + 1, by rw [hz.out], by go_num, by omega⟩, by simp [intOf]; omega⟩
          | false =>
            rw [Bool.false_or] at hz
            by_cases hx : x = 0
            · have x3 : ((x : Int) == 0) = true := beq_iff_eq.2 (by omega)
              rw [decide_eq_true hx, Bool.true_and] at hz
              by_cases hy : y = 0
              · have x4 : ((y : Int) == 0) = true := beq_iff_eq.2 (by omega)
                rw [decide_eq_true hy] at hz
                replace hz := Aside0.mk hz
                clear hx hy
                go_wp2_with fail
                exact ⟨⟨i + 1, by rw [hz.out], by go_num, by omega⟩, by simp [intOf]; omega⟩
              · have x4 : ((y : Int) == 0) = false := beq_eq_false_iff_ne.2 (by omega)
                have x5 : ¬ (y : Int) = 0 := by omega
                rw [decide_eq_false hy] at hz
                replace hz := Aside0.mk hz
                clear hx hy
                go_wp2_with fail
                exact ⟨⟨i + 1, by rw [hz.out], by go_num, by omega⟩, by simp [intOf]; omega⟩
            · have x3 : ((x : Int) == 0) = false := beq_eq_false_iff_ne.2 (by omega)
              have x5 : ¬ (x : Int) = 0 := by omega
              rw [decide_eq_false hx, Bool.false_and] at hz
              replace hz := Aside0.mk hz
              clear hx
              go_wp2_with fail
              exact ⟨⟨i + 1, by rw [hz.out], by go_num, by omega⟩, by simp [intOf]; omega⟩
        · obtain rfl : i = 7 := by omega
          have l1 : decide ((2 : Int) ≤ ((mkB s).size : Int)) = true := decide_eq_true (by omega)
          have l2 : decide (2 ≤ (mkB s).size) = true := decide_eq_true (by omega)
          have l3 : decide (((mkB s).size : Int) ≤ 39) = true := decide_eq_true (by omega)
          have l4 : decide ((mkB s).size ≤ 39) = true := decide_eq_true (by omega)
          rcases HP.out with ⟨rfl, hz⟩ | ⟨rfl, hz⟩
          all_goals
            rw [hz]
            clear hz HP
            go_wp2_with (go_at_call 7; with_reducible refine (works_any _ (HG.out.keep HB.out)).mono ?_; rintro e w5 ⟨rfl, hb5⟩; replace HB := Aside0.mk (below_step HB.out hb5); clear hb5)
            go_ret
            exact ⟨rfl, HB.out⟩
theorem portcullislaw11_SixShape.walk (_P : True) (a0 : List Int) (w : World) (l0 : a0.length = 8) (w0 : ∀ x ∈ a0, (Lit.int .u16 x).wf = true) (hG : WG w) :
    Calls Tryd.prog 5 #[.agg (intVals .u16 a0)] w fun e w' => e = .returned (.bool true) ∧ Below w.heap.size w w' := by
  obtain ⟨L, hL, h16, e⟩ := arr_of l0 w0
  rw [e]
  exact shape_go L hL h16 w hG
end Go.Proofs.YtbgmepfejbbpaaaDoor.Pr
