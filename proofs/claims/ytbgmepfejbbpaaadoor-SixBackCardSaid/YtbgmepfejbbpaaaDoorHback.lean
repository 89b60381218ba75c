import Derived.Test.YtbgmepfejbbpaaaDoorHcom
import Derived.Test.YtbgmepfejbbpaaaDoorGhex
import Derived.Test.YtbgmepfejbbpaaaDoorGback
import Derived.Test.YtbgmepfejbbpaaaDoorGshp
namespace Go.Proofs.YtbgmepfejbbpaaaDoor.Pr
open Go.RowKit Go.Proofs.YtbgmepfejbbpaaaDoorW.PrintWords Go.Proofs.YtbgmepfejbbpaaaDoorW.PrintLast Go.Proofs.YtbgmepfejbbpaaaDoorW.PrintMore
set_option linter.unusedVariables false
set_option linter.unusedSimpArgs false

/-! ### SixBack -/
theorem R8.congr {W : World} {b : Nat} {f f' : Nat → Nat} (h : R8 W b 0 f) (he : ∀ j, j < 8 → f j = f' j) : R8 W b 0 f' := ⟨fun i hi => by rw [← he i hi]; exact h.at_ i hi, h.fr⟩
theorem R8.lt8 {W : World} {b : Nat} {f : Nat → Nat} (h : R8 W b 0 f) : b < W.heap.size := World.block_lt_of_cell? _ _ (h.at_ 0 (by decide))
theorem R8.zset {W : World} {b : Nat} {f : Nat → Nat} {i m : Nat} (h : R8 W b 0 (zf f i m)) (hi : i ≤ m) (hm : m < 8) : R8 (W.setCell ⟨b, m, none⟩ (.int .u16 0)) b 0 (zf f i (m + 1)) := by
  refine ⟨fun j hj => ?_, fun j hj => by rw [World.frozen?_setCell]; exact h.fr j hj⟩
  have hj0 := h.at_ j hj
  rw [Nat.zero_add] at hj0 ⊢
  by_cases e : j = m
  · subst e
    rw [set_same hj0]
    unfold zf
    rw [if_pos ⟨hi, by omega⟩]; rfl
  · rw [set_other (by omega), hj0]
    unfold zf
    by_cases hc : i ≤ j ∧ j < m
    · rw [if_pos hc, if_pos (by omega)]
    · rw [if_neg hc, if_neg (by omega)]
theorem pad_lt {L : List Nat} (h : ∀ x ∈ L, x < 65536) (i : Nat) : pad8 L i < 65536 := by
  unfold pad8
  rw [List.getD_eq_getElem?_getD]
  cases e : L[i]? with
  | none => decide
  | some x => exact h x (List.mem_of_getElem? e)
theorem drop_six (L : List Nat) (hL : L.length = 8) : L.drop 6 = [pad8 L 6, pad8 L 7] := by
  match L, hL with
  | [_, _, _, _, _, _, x, y], _ => rfl
theorem and255 (x : Nat) (hx : x < 65536) : bits .and .u16 (x : Int) 255 = ((x % 256 : Nat) : Int) := by
  have h2 : (2 : Int) ^ 8 - 1 = 255 := by decide
  have h3 : (2 : Int) ^ 8 = 256 := by decide
  have h4 : (2 : Int) ^ 16 = 65536 := by decide
  have hkk : ∀ m : Int, 0 ≤ m → m < 2 ^ 16 → IntKind.u16.wrap m = m := fun m h0 h1 => IntWalk.u16_in m (by rw [h4] at h1; omega)
  have h := bits_mask .u16 16 (by decide) hkk 8 (by decide) (x : Int) (by omega) (by rw [h4]; omega)
  rw [h2] at h
  rw [h, h3]
  omega
structure DS (w : World) (f : Nat → Nat) (w' : World) : Prop where
  r : R8 w' w.heap.size 0 f
  b : Below w.heap.size w w'
theorem DS.drew {w W : World} {f : Nat → Nat} (h : DS w f W) : DS w f W.drew := ⟨⟨h.r.at_, h.r.fr⟩, below_drew h.b⟩
theorem DS.one {w W : World} {f : Nat → Nat} {p : Prop} (h : DS w f W ∧ p) : DS w f W := h.1
theorem DS.keep2 {w W W2 : World} {f : Nat → Nat} {a b : Addr} {u v : Value} (h : DS w f W ∧ W.cell? a = some u ∧ W.cell? b = some v) (hb : Below W.heap.size W W2) : DS w f W2 ∧ W2.cell? a = some u ∧ W2.cell? b = some v := ⟨⟨h.1.r.keep hb h.1.r.lt8, below_step h.1.b hb⟩, cell_keep h.2.1 hb, cell_keep h.2.2 hb⟩
set_option maxRecDepth 8000 in
set_option maxHeartbeats 4000000 in
theorem back_go (L : List Nat) (hL : L.length = 8) (h16 : ∀ n ∈ L, n < 65536) (p q : Nat) (hp : p < 256) (hq : q < 256) (c no d : Bool) (w : World) (hG : WG w) :
    Calls Tryd.prog 4 #[.agg (cs8 (pad8 L)).toArray, .int .u8 (p : Int), .int .u8 (q : Int), .bool c, .bool no, .bool d] w fun e w' => e = .returned (.bool true) ∧ Below w.heap.size w w' := by
  have HB : Aside0 (Below w.heap.size w (w.alloc (.cells (cs8 (pad8 L)).toArray 23))) := ⟨below_alloc (Below.refl _ _) _⟩
  have HA := Aside0.mk (R8.boxed w (pad8 L))
  have HG := Aside0.mk hG
  clear hG
  have HT := Aside0.mk (fun W => text_any L hL h16 W)
  have hback := text_back L hL h16
  obtain ⟨P, _, _, _, hl39⟩ := shape_ok L hL h16
  have HP : Aside0 (∀ W, Calls Tryd.prog 8 #[.string (mkB (textF L))] W fun e w' => e = .returned (.tuple #[.agg (cs8 (pad8 L)).toArray, .int .i64 0]) ∧ Below W.heap.size W w') := ⟨fun W => (parse_any (textF L) W (by omega)).mono fun e w' h => ⟨by have := h.2; rw [hback] at this; exact this, h.1⟩⟩
  clear hback hl39
  generalize textF L = s at HT HP
  have m1 : ((p : Int) % 8) = ((p % 8 : Nat) : Int) := by omega
  have m2 : ((q : Int) % 9) = ((q % 9 : Nat) : Int) := by omega
  have m3 : Int.tmod (p : Int) 8 = ((p % 8 : Nat) : Int) := by rw [Int.tmod_eq_emod_of_nonneg (by omega)]; omega
  have m4 : Int.tmod (q : Int) 9 = ((q % 9 : Nat) : Int) := by rw [Int.tmod_eq_emod_of_nonneg (by omega)]; omega
  have hi8 : p % 8 < 8 := by omega
  have hk8 : q % 9 ≤ 8 := by omega
  generalize p % 8 = i at m1 m3 hi8
  generalize q % 9 = k at m2 m4 hk8
  go_enter Tryd.func4, Tryd.ntmps4
  go_upto_region 1 with (fail)
  generalize w.alloc (.cells (cs8 (pad8 L)).toArray 23) = W at HA HB ⊢
  go_upto_region 2 with (first | (with_reducible refine wpList_load_mid rfl 23 _ rfl w.heap.size 0 rfl (cs8 (pad8 L)) _ HA.out.range Tryd.underlying23 rfl (info8c _) ?_) | (go_at_call 10; with_reducible refine (HT.out _ (HG.out.keep HB.out)).mono ?_; rintro e w0 ⟨rfl, hb2⟩; replace HB := Aside0.mk (below_step HB.out hb2); replace HA := Aside0.mk (HA.out.keep hb2 HA.out.lt8); clear hb2))
  clear HT
  go_upto_region 3 with (first | (go_at_call 8; with_reducible refine (HP.out _).mono ?_; rintro e w1 ⟨rfl, hb1⟩) | (with_reducible refine wpList_store_mid rfl 23 _ _ rfl _ 0 (cs8 (pad8 L)).toArray rfl rfl (th_8 (R8.fresh _) _) (info8a _) (one8 _) ?_))
  obtain ⟨W1, b1, e1, e2, hr1, hB1, hlt1⟩ := fresh_stored w1 (pad8 L)
  replace HB := Aside0.mk (below_step (below_step HB.out hb1) hB1)
  replace HA := Aside0.mk ((HA.out.keep hb1 HA.out.lt8).keep hB1 (Nat.lt_of_lt_of_le HA.out.lt8 hb1.size))
  rw [e1, e2]
  clear e1 e2 hb1 hB1 HP hlt1
  have HR1 := Aside0.mk hr1
  clear hr1
  have hNe := neq8 (pad8 L)
  go_upto_region 6 with (first | (with_reducible refine wpList_load_mid rfl 23 _ rfl b1 0 rfl (cs8 (pad8 L)) _ HR1.out.range Tryd.underlying23 rfl (info8c _) ?_) | (with_reducible refine wpList_load_mid rfl 23 _ rfl w.heap.size 0 rfl (cs8 (pad8 L)) _ HA.out.range Tryd.underlying23 rfl (info8c _) ?_))
  clear hNe HR1 m1 m2 m3 m4
  by_cases hik : i < k
  · have P9 : decide ((i : Int) < (k : Int)) = true := decide_eq_true (by omega)
    have P9' : decide (i < k) = true := decide_eq_true hik
    go_upto_block 0 with (fail)
    clear P9 P9'
    go_wp2_with fail
    have HA0 : Aside0 (R8 W1 w.heap.size 0 (zf (pad8 L) i i)) := ⟨by rw [zf_none]; exact HA.out⟩
    clear HA
    go_loopw [18] (fun v18 wx => ∃ m : Nat, v18 = .int .i64 (m : Int) ∧ i ≤ m ∧ m ≤ k ∧ Aside0 (R8 wx w.heap.size 0 (zf (pad8 L) i m)) ∧ Aside0 (Below w.heap.size w wx)) (fun v18 _ => 8 - (intOf v18).toNat)
    case atStart => exact ⟨i, rfl, by omega, by omega, HA0, HB⟩
    case round =>
      clear HA0 HB
      obtain ⟨m, rfl, him, hmk, HA, HB⟩ := hrel
      by_cases hm : m < k
      · have hib : decide ((m : Int) < (k : Int)) = true := decide_eq_true (by omega)
        have hib2 : decide (m < k) = true := decide_eq_true hm
        have hc := HA.out.at_ m (by omega)
        have hf := HA.out.fr m (by omega)
        rw [Nat.zero_add] at hc hf
        have hl8 := HA.out.lt8
        have HA2 := Aside0.mk (HA.out.zset him (by omega))
        have HB2 := Aside0.mk (HB.out.setCell (p := ⟨w.heap.size, m, none⟩) (Nat.le_refl _) (.int .u16 0))
        clear HA HB
        go_wp2_with fail
        exact ⟨⟨m + 1, by go_num, by omega, by omega, HA2, HB2⟩, by simp [intOf]; omega⟩
      · obtain ⟨m9, rfl⟩ : ∃ m9, m9 = m := ⟨_, rfl⟩
        obtain rfl : m9 = k := by omega
        have hib : decide ((m9 : Int) < (m9 : Int)) = false := decide_eq_false (by omega)
        have hib2 : decide (m9 < m9) = false := decide_eq_false (by omega)
        have hL' := zL_len L i m9 hL hik hk8
        have h16' := zL_lt L i m9 h16
        have hgL := zL_gap L i m9 hL hik hk8
        replace HA := Aside0.mk (HA.out.congr fun j hj => zL_pad L i m9 hL hik hk8 j hj)
        generalize zL L i m9 = L1 at hL' h16' HA hgL
        obtain ⟨bb, hbb⟩ : ∃ bb : Int × Nat, bb = ((i : Int), m9 - i) := ⟨_, rfl⟩
        have hgapP : GapP L1 bb := by
          rw [hbb]
          exact .inr ⟨i, rfl, by simp only; omega, by simp only; omega, hgL⟩
        have hb1 : bb.1 = (i : Int) := by rw [hbb]
        have hb2 : (bb.2 : Int) = (m9 : Int) - (i : Int) := by rw [hbb]; simp only; omega
        have hW : ∀ x ∈ L1, Wrt (hexW c no) x := fun x hx => hexW_wrt c no x (h16' x hx)
        have hW4 : ∀ x, x < 65536 → (hexW c no x).length ≤ 4 := fun x hx => (hex_is c no x hx).2.le
        have HLen := Aside0.mk (rwK_len (W := hexW c no) (L := L1) bb (fun x hx => hW4 x (h16' x hx)) (hW4 0 (by decide)))
        clear hbb
        go_upto_block 2 with (fail)
        go_cut [19] (fun v19 wx => ∃ T, v19 = .string (mkB T) ∧ Hid (sixA T = some L1) ∧ Hid (R8 wx w.heap.size 0 (pad8 L1)) ∧ Hid (Below w.heap.size w wx) ∧ T.length ≤ 1000)
        case first =>
          go_wp2_with fail
          go_loopw [19, 20] (fun v19 v20 wx => ∃ m : Nat, v20 = .int .i64 (m : Int) ∧ m ≤ 8 ∧ v19 = .string (mkB (rwK (hexW c no) L1 bb m)) ∧ Aside0 (R8 wx w.heap.size 0 (pad8 L1)) ∧ Aside0 (Below w.heap.size w wx)) (fun _ v20 _ => 8 - (intOf v20).toNat)
          case atStart => exact ⟨0, rfl, by omega, rfl, HA, HB⟩
          case round =>
            clear HA HB
            obtain ⟨m, rfl, hm8, rfl, HA, HB⟩ := hrel
            by_cases hm : m < 8
            · have hib : decide ((m : Int) < 8) = true := decide_eq_true (by omega)
              have hib2 : decide (m < 8) = true := decide_eq_true hm
              have hc := HA.out.at_ m hm
              rw [Nat.zero_add] at hc
              have hxm : pad8 L1 m < 65536 := pad_lt h16' m
              have hz0 := HLen.out m
              have hst : rwK (hexW c no) L1 bb (m + 1) = if 0 ≤ bb.1 ∧ bb.1 ≤ (m : Int) ∧ (m : Int) < bb.1 + (bb.2 : Int) then (if (m : Int) = bb.1 then rwK (hexW c no) L1 bb m ++ [58, 58] else rwK (hexW c no) L1 bb m) else (if 0 < m ∧ ((m : Int) ≠ bb.1 + (bb.2 : Int) ∨ bb.1 < 0) then (rwK (hexW c no) L1 bb m ++ [58]) ++ hexW c no (pad8 L1 m) else rwK (hexW c no) L1 bb m ++ hexW c no (pad8 L1 m)) := rfl
              have HH := Aside0.mk (fun W => hexcall c no (pad8 L1 m) hxm W)
              have hx4 := hW4 (pad8 L1 m) hxm
              generalize htt : rwK (hexW c no) L1 bb m = t at hst hz0 ⊢
              generalize pad8 L1 m = xm at hc hst HH hx4
              have hz1 : (9223372036854775807 < (mkB t).size + 1) = False := eq_false (by rw [mkB_size]; omega)
              have hz2 : (9223372036854775807 < (mkB t).size + 2) = False := eq_false (by rw [mkB_size]; omega)
              have hz3 : (9223372036854775807 < (mkB t).size + 1 + (mkB (hexW c no xm)).size) = False := eq_false (by rw [mkB_size, mkB_size]; omega)
              have hz5 : (9223372036854775807 < (mkB t).size + (mkB (hexW c no xm)).size) = False := eq_false (by rw [mkB_size, mkB_size]; omega)
              clear hx4 hxm
              have P0 : decide ((i : Int) < (m9 : Int)) = true := decide_eq_true (by omega)
              have P0' : decide (i < m9) = true := decide_eq_true hik
              by_cases hmi : m < i
              · have F2 : decide ((i : Int) ≤ (m : Int)) = false := decide_eq_false (by omega)
                have F2' : decide (i ≤ m) = false := decide_eq_false (by omega)
                have F5 : ((m : Int) == (m9 : Int)) = false := beq_eq_false_iff_ne.2 (by omega)
                by_cases hm0 : m = 0
                · have g1 : decide ((0 : Int) < (m : Int)) = false := decide_eq_false (by omega)
                  have g2 : decide (0 < m) = false := decide_eq_false (by omega)
                  rw [if_neg (by omega), if_neg (by omega)] at hst
                  replace hst := Aside0.mk hst
                  cases d with
                  | false =>
                    try clear hm0
                    go_wp2_with (first | (go_at_call 13; with_reducible refine (HH.out _).mono ?_; rintro e w2 ⟨rfl, hb2⟩; replace HB := Aside0.mk (below_step HB.out hb2); replace HA := Aside0.mk (HA.out.keep hb2 HA.out.lt8); clear hb2))
                    exact ⟨⟨m + 1, by go_num, by omega, by rw [hst.out, mkB_append], HA, HB⟩, by simp [intOf]; omega⟩
                  | true =>
                    by_cases h6 : m = 6
                    · have e6 : ((m : Int) == 6) = true := beq_iff_eq.2 (by omega)
                      have k6 : decide ((6 : Int) < (m9 : Int)) = true := decide_eq_true (by omega)
                      have k6' : decide (6 < m9) = true := decide_eq_true (by omega)
                      clear h6
                      try clear hm0
                      go_wp2_with (first | (go_at_call 13; with_reducible refine (HH.out _).mono ?_; rintro e w2 ⟨rfl, hb2⟩; replace HB := Aside0.mk (below_step HB.out hb2); replace HA := Aside0.mk (HA.out.keep hb2 HA.out.lt8); clear hb2))
                      exact ⟨⟨m + 1, by go_num, by omega, by rw [hst.out, mkB_append], HA, HB⟩, by simp [intOf]; omega⟩
                    · have e6 : ((m : Int) == 6) = false := beq_eq_false_iff_ne.2 (by omega)
                      clear h6
                      try clear hm0
                      go_wp2_with (first | (go_at_call 13; with_reducible refine (HH.out _).mono ?_; rintro e w2 ⟨rfl, hb2⟩; replace HB := Aside0.mk (below_step HB.out hb2); replace HA := Aside0.mk (HA.out.keep hb2 HA.out.lt8); clear hb2))
                      exact ⟨⟨m + 1, by go_num, by omega, by rw [hst.out, mkB_append], HA, HB⟩, by simp [intOf]; omega⟩
                · have g1 : decide ((0 : Int) < (m : Int)) = true := decide_eq_true (by omega)
                  have g2 : decide (0 < m) = true := decide_eq_true (by omega)
                  rw [if_neg (by omega), if_pos (by omega)] at hst
                  replace hst := Aside0.mk hst
                  cases d with
                  | false =>
                    try clear hm0
                    go_wp2_with (first | (go_at_call 13; with_reducible refine (HH.out _).mono ?_; rintro e w2 ⟨rfl, hb2⟩; replace HB := Aside0.mk (below_step HB.out hb2); replace HA := Aside0.mk (HA.out.keep hb2 HA.out.lt8); clear hb2))
                    exact ⟨⟨m + 1, by go_num, by omega, by rw [hst.out, show (⟨#[58]⟩ : ByteArray) = mkB [58] from rfl, mkB_append, mkB_append], HA, HB⟩, by simp [intOf]; omega⟩
                  | true =>
                    by_cases h6 : m = 6
                    · have e6 : ((m : Int) == 6) = true := beq_iff_eq.2 (by omega)
                      have k6 : decide ((6 : Int) < (m9 : Int)) = true := decide_eq_true (by omega)
                      have k6' : decide (6 < m9) = true := decide_eq_true (by omega)
                      clear h6
                      try clear hm0
                      go_wp2_with (first | (go_at_call 13; with_reducible refine (HH.out _).mono ?_; rintro e w2 ⟨rfl, hb2⟩; replace HB := Aside0.mk (below_step HB.out hb2); replace HA := Aside0.mk (HA.out.keep hb2 HA.out.lt8); clear hb2))
                      exact ⟨⟨m + 1, by go_num, by omega, by rw [hst.out, show (⟨#[58]⟩ : ByteArray) = mkB [58] from rfl, mkB_append, mkB_append], HA, HB⟩, by simp [intOf]; omega⟩
                    · have e6 : ((m : Int) == 6) = false := beq_eq_false_iff_ne.2 (by omega)
                      clear h6
                      try clear hm0
                      go_wp2_with (first | (go_at_call 13; with_reducible refine (HH.out _).mono ?_; rintro e w2 ⟨rfl, hb2⟩; replace HB := Aside0.mk (below_step HB.out hb2); replace HA := Aside0.mk (HA.out.keep hb2 HA.out.lt8); clear hb2))
                      exact ⟨⟨m + 1, by go_num, by omega, by rw [hst.out, show (⟨#[58]⟩ : ByteArray) = mkB [58] from rfl, mkB_append, mkB_append], HA, HB⟩, by simp [intOf]; omega⟩
              · have F2 : decide ((i : Int) ≤ (m : Int)) = true := decide_eq_true (by omega)
                have F2' : decide (i ≤ m) = true := decide_eq_true (by omega)
                by_cases hmk : m < m9
                · have F3 : decide ((m : Int) < (m9 : Int)) = true := decide_eq_true (by omega)
                  have F3' : decide (m < m9) = true := decide_eq_true hmk
                  rw [if_pos (by omega)] at hst
                  by_cases hme : m = i
                  · have F4 : ((m : Int) == (i : Int)) = true := beq_iff_eq.2 (by omega)
                    rw [if_pos (by omega)] at hst
                    replace hst := Aside0.mk hst
                    clear hme
                    go_wp2_with fail
                    exact ⟨⟨m + 1, by go_num, by omega, by rw [hst.out, show (⟨#[58, 58]⟩ : ByteArray) = mkB [58, 58] from rfl, mkB_append], HA, HB⟩, by simp [intOf]; omega⟩
                  · have F4 : ((m : Int) == (i : Int)) = false := beq_eq_false_iff_ne.2 (by omega)
                    rw [if_neg (by omega)] at hst
                    replace hst := Aside0.mk hst
                    clear hme
                    go_wp2_with fail
                    exact ⟨⟨m + 1, by go_num, by omega, by rw [hst.out], HA, HB⟩, by simp [intOf]; omega⟩
                · have F3 : decide ((m : Int) < (m9 : Int)) = false := decide_eq_false (by omega)
                  have F3' : decide (m < m9) = false := decide_eq_false hmk
                  have g1 : decide ((0 : Int) < (m : Int)) = true := decide_eq_true (by omega)
                  have g2 : decide (0 < m) = true := decide_eq_true (by omega)
                  by_cases hm0 : m = m9
                  · have F5 : ((m : Int) == (m9 : Int)) = true := beq_iff_eq.2 (by omega)
                    rw [if_neg (by omega), if_neg (by omega)] at hst
                    replace hst := Aside0.mk hst
                    cases d with
                    | false =>
                      try clear hm0
                      go_wp2_with (first | (go_at_call 13; with_reducible refine (HH.out _).mono ?_; rintro e w2 ⟨rfl, hb2⟩; replace HB := Aside0.mk (below_step HB.out hb2); replace HA := Aside0.mk (HA.out.keep hb2 HA.out.lt8); clear hb2))
                      exact ⟨⟨m + 1, by go_num, by omega, by rw [hst.out, mkB_append], HA, HB⟩, by simp [intOf]; omega⟩
                    | true =>
                      by_cases h6 : m = 6
                      · have e6 : ((m : Int) == 6) = true := beq_iff_eq.2 (by omega)
                        have k6 : decide ((6 : Int) < (m9 : Int)) = false := decide_eq_false (by omega)
                        have k6' : decide (6 < m9) = false := decide_eq_false (by omega)
                        have hend : ∀ D, rdotF D = some (L1.drop 6) → D ≠ [] → 58 ∉ D → sixA (t ++ D) = some L1 := fun D h1 h2 h3 => by
                          have := back_dot hL' hW bb hgapP (by omega) D h1 h2 h3
                          unfold dotT at this
                          rw [if_neg (by omega)] at this
                          rw [← htt, h6]
                          exact this
                        clear h6
                        try clear hm0
                        go_upto_region 21 with (fail)
                        have ha6 := HA.out.at_ 6 (by decide)
                        have ha7 := HA.out.at_ 7 (by decide)
                        have hx6 : pad8 L1 6 < 65536 := pad_lt h16' 6
                        have hx7 : pad8 L1 7 < 65536 := pad_lt h16' 7
                        rw [Nat.zero_add] at ha6 ha7
                        have hDS : DS w (pad8 L1) wr := ⟨HA.out, HB.out⟩
                        have hdr := dotD_reads (pad8 L1 6) (pad8 L1 7) hx6 hx7
                        have hdl := dotD_len (pad8 L1 6) (pad8 L1 7) hx6 hx7
                        have hd6 : L1.drop 6 = [pad8 L1 6, pad8 L1 7] := drop_six L1 hL'
                        rw [← hd6] at hdr
                        have HT6 := hend _ hdr.1 hdr.2.1 hdr.2.2
                        unfold dotD at HT6 hdl
                        generalize pad8 L1 6 = x at ha6 hx6 HT6 hdl
                        generalize pad8 L1 7 = y at ha7 hx7 HT6 hdl
                        clear hdr hd6 hend
                        obtain ⟨t0, ht0⟩ : ∃ t0, t0 = t := ⟨_, rfl⟩
                        rw [← ht0] at HT6 ⊢
                        have ht1 := tencall ((x : Int) / 256) (x / 256) (by omega) (by omega)
                        have ht2 := tencall (bits .and .u16 (x : Int) 255) (x % 256) (by omega) (and255 x hx6)
                        have ht3 := tencall ((y : Int) / 256) (y / 256) (by omega) (by omega)
                        have ht4 := tencall (bits .and .u16 (y : Int) 255) (y % 256) (by omega) (and255 y hx7)
                        have hlen0 : t0.length ≤ 100 := by rw [ht0]; omega
                        generalize digs 10 (x / 256) = d1 at ht1 HT6 hdl
                        generalize digs 10 (x % 256) = d2 at ht2 HT6 hdl
                        generalize digs 10 (y / 256) = d3 at ht3 HT6 hdl
                        generalize digs 10 (y % 256) = d4 at ht4 HT6 hdl
                        simp only [List.length_append, List.length_cons] at hdl
                        have hy0 : (9223372036854775807 < (mkB t0).size + (mkB d1).size) = False := eq_false (by simp only [mkB_size]; omega)
                        have hy1 : (9223372036854775807 < (mkB t0).size + (mkB d1).size + 1) = False := eq_false (by simp only [mkB_size]; omega)
                        have hy2 : (9223372036854775807 < (mkB t0).size + (mkB d1).size + 1 + (mkB d2).size) = False := eq_false (by simp only [mkB_size]; omega)
                        have hy3 : (9223372036854775807 < (mkB t0).size + (mkB d1).size + 1 + (mkB d2).size + 1) = False := eq_false (by simp only [mkB_size]; omega)
                        have hy4 : (9223372036854775807 < (mkB t0).size + (mkB d1).size + 1 + (mkB d2).size + 1 + (mkB d3).size) = False := eq_false (by simp only [mkB_size]; omega)
                        have hy5 : (9223372036854775807 < (mkB t0).size + (mkB d1).size + 1 + (mkB d2).size + 1 + (mkB d3).size + 1) = False := eq_false (by simp only [mkB_size]; omega)
                        have hy6 : (9223372036854775807 < (mkB t0).size + (mkB d1).size + 1 + (mkB d2).size + 1 + (mkB d3).size + 1 + (mkB d4).size) = False := eq_false (by simp only [mkB_size]; omega)
                        have HTL : Aside0 ((t0 ++ (d1 ++ 46 :: (d2 ++ 46 :: (d3 ++ 46 :: d4)))).length ≤ 1000) := ⟨by simp only [List.length_append, List.length_cons]; omega⟩
                        replace HT6 := Aside0.mk HT6
                        replace hDS := Aside0.mk hDS
                        clear HA HB hx6 hx7 hdl hlen0 ht0
                        try clear htt
                        (first | (go_region_held (fun w' => DS w (pad8 L1) w' ∧ w'.cell? ⟨w.heap.size, 6, none⟩ = some (.int .u16 (x : Int)) ∧ w'.cell? ⟨w.heap.size, 7, none⟩ = some (.int .u16 (y : Int))) (first | assumption | exact ⟨hDS.out.drew, ha6, ha7⟩ | exact DS.keep2 (by assumption) (by assumption)) (first | (go_at_call 12; with_reducible refine (ht1 _).mono ?_; rintro e w1 ⟨rfl, hb1⟩) | (go_at_call 12; with_reducible refine (ht2 _).mono ?_; rintro e w2 ⟨rfl, hb2⟩) | (go_at_call 12; with_reducible refine (ht3 _).mono ?_; rintro e w3 ⟨rfl, hb3⟩) | (go_at_call 12; with_reducible refine (ht4 _).mono ?_; rintro e w4 ⟨rfl, hb4⟩))) | fail)
                        all_goals
                          have hDS2 := DS.one (by assumption)
                          go_wp2_with fail
                          go_meet
                          exact ⟨_, by simp only [mkB_append, show (⟨#[46]⟩ : ByteArray) = mkB [46] from rfl, List.append_assoc, List.cons_append, List.nil_append], Lib.hid HT6.out, Lib.hid hDS2.r, Lib.hid hDS2.b, HTL.out⟩
                      · have e6 : ((m : Int) == 6) = false := beq_eq_false_iff_ne.2 (by omega)
                        clear h6
                        try clear hm0
                        go_wp2_with (first | (go_at_call 13; with_reducible refine (HH.out _).mono ?_; rintro e w2 ⟨rfl, hb2⟩; replace HB := Aside0.mk (below_step HB.out hb2); replace HA := Aside0.mk (HA.out.keep hb2 HA.out.lt8); clear hb2))
                        exact ⟨⟨m + 1, by go_num, by omega, by rw [hst.out, mkB_append], HA, HB⟩, by simp [intOf]; omega⟩
                  · have F5 : ((m : Int) == (m9 : Int)) = false := beq_eq_false_iff_ne.2 (by omega)
                    rw [if_neg (by omega), if_pos (by omega)] at hst
                    replace hst := Aside0.mk hst
                    cases d with
                    | false =>
                      try clear hm0
                      go_wp2_with (first | (go_at_call 13; with_reducible refine (HH.out _).mono ?_; rintro e w2 ⟨rfl, hb2⟩; replace HB := Aside0.mk (below_step HB.out hb2); replace HA := Aside0.mk (HA.out.keep hb2 HA.out.lt8); clear hb2))
                      exact ⟨⟨m + 1, by go_num, by omega, by rw [hst.out, show (⟨#[58]⟩ : ByteArray) = mkB [58] from rfl, mkB_append, mkB_append], HA, HB⟩, by simp [intOf]; omega⟩
                    | true =>
                      by_cases h6 : m = 6
                      · have e6 : ((m : Int) == 6) = true := beq_iff_eq.2 (by omega)
                        have k6 : decide ((6 : Int) < (m9 : Int)) = false := decide_eq_false (by omega)
                        have k6' : decide (6 < m9) = false := decide_eq_false (by omega)
                        have hend : ∀ D, rdotF D = some (L1.drop 6) → D ≠ [] → 58 ∉ D → sixA (t ++ [58] ++ D) = some L1 := fun D h1 h2 h3 => by
                          have := back_dot hL' hW bb hgapP (by omega) D h1 h2 h3
                          unfold dotT at this
                          rw [if_pos (by omega)] at this
                          rw [← htt, h6]
                          exact this
                        clear h6
                        try clear hm0
                        go_upto_region 21 with (fail)
                        have ha6 := HA.out.at_ 6 (by decide)
                        have ha7 := HA.out.at_ 7 (by decide)
                        have hx6 : pad8 L1 6 < 65536 := pad_lt h16' 6
                        have hx7 : pad8 L1 7 < 65536 := pad_lt h16' 7
                        rw [Nat.zero_add] at ha6 ha7
                        have hDS : DS w (pad8 L1) wr := ⟨HA.out, HB.out⟩
                        have hdr := dotD_reads (pad8 L1 6) (pad8 L1 7) hx6 hx7
                        have hdl := dotD_len (pad8 L1 6) (pad8 L1 7) hx6 hx7
                        have hd6 : L1.drop 6 = [pad8 L1 6, pad8 L1 7] := drop_six L1 hL'
                        rw [← hd6] at hdr
                        have HT6 := hend _ hdr.1 hdr.2.1 hdr.2.2
                        unfold dotD at HT6 hdl
                        generalize pad8 L1 6 = x at ha6 hx6 HT6 hdl
                        generalize pad8 L1 7 = y at ha7 hx7 HT6 hdl
                        clear hdr hd6 hend
                        obtain ⟨t0, ht0⟩ : ∃ t0, t0 = t ++ [58] := ⟨_, rfl⟩
                        have hmt : mkB t ++ ⟨#[58]⟩ = mkB t0 := by rw [ht0, show (⟨#[58]⟩ : ByteArray) = mkB [58] from rfl, mkB_append]
                        rw [← ht0] at HT6
                        rw [hmt]
                        clear hmt
                        have ht1 := tencall ((x : Int) / 256) (x / 256) (by omega) (by omega)
                        have ht2 := tencall (bits .and .u16 (x : Int) 255) (x % 256) (by omega) (and255 x hx6)
                        have ht3 := tencall ((y : Int) / 256) (y / 256) (by omega) (by omega)
                        have ht4 := tencall (bits .and .u16 (y : Int) 255) (y % 256) (by omega) (and255 y hx7)
                        have hlen0 : t0.length ≤ 100 := by rw [ht0]; simp; omega
                        generalize digs 10 (x / 256) = d1 at ht1 HT6 hdl
                        generalize digs 10 (x % 256) = d2 at ht2 HT6 hdl
                        generalize digs 10 (y / 256) = d3 at ht3 HT6 hdl
                        generalize digs 10 (y % 256) = d4 at ht4 HT6 hdl
                        simp only [List.length_append, List.length_cons] at hdl
                        have hy0 : (9223372036854775807 < (mkB t0).size + (mkB d1).size) = False := eq_false (by simp only [mkB_size]; omega)
                        have hy1 : (9223372036854775807 < (mkB t0).size + (mkB d1).size + 1) = False := eq_false (by simp only [mkB_size]; omega)
                        have hy2 : (9223372036854775807 < (mkB t0).size + (mkB d1).size + 1 + (mkB d2).size) = False := eq_false (by simp only [mkB_size]; omega)
                        have hy3 : (9223372036854775807 < (mkB t0).size + (mkB d1).size + 1 + (mkB d2).size + 1) = False := eq_false (by simp only [mkB_size]; omega)
                        have hy4 : (9223372036854775807 < (mkB t0).size + (mkB d1).size + 1 + (mkB d2).size + 1 + (mkB d3).size) = False := eq_false (by simp only [mkB_size]; omega)
                        have hy5 : (9223372036854775807 < (mkB t0).size + (mkB d1).size + 1 + (mkB d2).size + 1 + (mkB d3).size + 1) = False := eq_false (by simp only [mkB_size]; omega)
                        have hy6 : (9223372036854775807 < (mkB t0).size + (mkB d1).size + 1 + (mkB d2).size + 1 + (mkB d3).size + 1 + (mkB d4).size) = False := eq_false (by simp only [mkB_size]; omega)
                        have HTL : Aside0 ((t0 ++ (d1 ++ 46 :: (d2 ++ 46 :: (d3 ++ 46 :: d4)))).length ≤ 1000) := ⟨by simp only [List.length_append, List.length_cons]; omega⟩
                        replace HT6 := Aside0.mk HT6
                        replace hDS := Aside0.mk hDS
                        clear HA HB hx6 hx7 hdl hlen0 ht0
                        try clear htt
                        (first | (go_region_held (fun w' => DS w (pad8 L1) w' ∧ w'.cell? ⟨w.heap.size, 6, none⟩ = some (.int .u16 (x : Int)) ∧ w'.cell? ⟨w.heap.size, 7, none⟩ = some (.int .u16 (y : Int))) (first | assumption | exact ⟨hDS.out.drew, ha6, ha7⟩ | exact DS.keep2 (by assumption) (by assumption)) (first | (go_at_call 12; with_reducible refine (ht1 _).mono ?_; rintro e w1 ⟨rfl, hb1⟩) | (go_at_call 12; with_reducible refine (ht2 _).mono ?_; rintro e w2 ⟨rfl, hb2⟩) | (go_at_call 12; with_reducible refine (ht3 _).mono ?_; rintro e w3 ⟨rfl, hb3⟩) | (go_at_call 12; with_reducible refine (ht4 _).mono ?_; rintro e w4 ⟨rfl, hb4⟩))) | fail)
                        all_goals
                          have hDS2 := DS.one (by assumption)
                          go_wp2_with fail
                          go_meet
                          exact ⟨_, by simp only [mkB_append, show (⟨#[46]⟩ : ByteArray) = mkB [46] from rfl, List.append_assoc, List.cons_append, List.nil_append], Lib.hid HT6.out, Lib.hid hDS2.r, Lib.hid hDS2.b, HTL.out⟩
                      · have e6 : ((m : Int) == 6) = false := beq_eq_false_iff_ne.2 (by omega)
                        clear h6
                        try clear hm0
                        go_wp2_with (first | (go_at_call 13; with_reducible refine (HH.out _).mono ?_; rintro e w2 ⟨rfl, hb2⟩; replace HB := Aside0.mk (below_step HB.out hb2); replace HA := Aside0.mk (HA.out.keep hb2 HA.out.lt8); clear hb2))
                        exact ⟨⟨m + 1, by go_num, by omega, by rw [hst.out, show (⟨#[58]⟩ : ByteArray) = mkB [58] from rfl, mkB_append, mkB_append], HA, HB⟩, by simp [intOf]; omega⟩
            · obtain rfl : m = 8 := by omega
              have hib : decide (((8 : Nat) : Int) < 8) = false := by decide
              have hend := back_all hL' hW bb hgapP
              have hz0 := HLen.out 8
              go_wp2_with fail
              go_meet
              exact ⟨_, rfl, Lib.hid hend, Lib.hid HA.out, Lib.hid HB.out, by omega⟩
        case rest =>
          clear HA HB HLen hW hW4 hgapP hb1 hb2
          obtain ⟨T, rfl, hTs, hTa, hTb, hTl⟩ := hcut
          have HA := Aside0.mk hTa.out
          have HB := Aside0.mk hTb.out
          have HP : Aside0 (∀ W, Calls Tryd.prog 8 #[.string (mkB T)] W fun e w' => e = .returned (.tuple #[.agg (cs8 (pad8 L1)).toArray, .int .i64 0]) ∧ Below W.heap.size W w') := ⟨fun W => (parse_any T W (by omega)).mono fun e w' h => ⟨by have := h.2; rw [hTs.out] at this; exact this, h.1⟩⟩
          clear hTs hTa hTb hTl
          have HT := Aside0.mk (fun W => text_lit L1 hL' h16' W)
          go_upto_region 24 with (first | (go_at_call 8; with_reducible refine (HP.out _).mono ?_; rintro e w1 ⟨rfl, hb1⟩) | (with_reducible refine wpList_store_mid rfl 23 _ _ rfl _ 0 (cs8 (pad8 L1)).toArray rfl rfl (th_8 (R8.fresh _) _) (info8a _) (one8 _) ?_))
          obtain ⟨W2, b2, e1, e2, hr2, hB2, hlt2⟩ := fresh_stored w1 (pad8 L1)
          replace HB := Aside0.mk (below_step (below_step HB.out hb1) hB2)
          have hAk := (HA.out.c8.keep hb1).keep hB2
          rw [e1, e2]
          clear e1 e2 hb1 hB2 HP HA hlt2
          have HTS : TS w w.heap.size b2 b2 (pad8 L1) (pad8 L1) W2 := ⟨hAk, hr2.c8, hr2.c8, HB.out⟩
          clear hAk hr2
          generalize pad8 L1 = FA at HTS HT ⊢
          have hEq := eq_lit FA
          (first | (go_region_held (fun w' => TS w w.heap.size b2 b2 (FA) (FA) w' ∧ w'.cell? ⟨w.heap.size, 0, none⟩ = some (.int .u16 (FA 0 : Int)) ∧ w'.cell? ⟨w.heap.size, 1, none⟩ = some (.int .u16 (FA 1 : Int)) ∧ w'.cell? ⟨w.heap.size, 2, none⟩ = some (.int .u16 (FA 2 : Int)) ∧ w'.cell? ⟨w.heap.size, 3, none⟩ = some (.int .u16 (FA 3 : Int)) ∧ w'.cell? ⟨w.heap.size, 4, none⟩ = some (.int .u16 (FA 4 : Int)) ∧ w'.cell? ⟨w.heap.size, 5, none⟩ = some (.int .u16 (FA 5 : Int)) ∧ w'.cell? ⟨w.heap.size, 6, none⟩ = some (.int .u16 (FA 6 : Int)) ∧ w'.cell? ⟨w.heap.size, 7, none⟩ = some (.int .u16 (FA 7 : Int)) ∧ w'.cell? ⟨b2, 0, none⟩ = some (.int .u16 (FA 0 : Int)) ∧ w'.cell? ⟨b2, 1, none⟩ = some (.int .u16 (FA 1 : Int)) ∧ w'.cell? ⟨b2, 2, none⟩ = some (.int .u16 (FA 2 : Int)) ∧ w'.cell? ⟨b2, 3, none⟩ = some (.int .u16 (FA 3 : Int)) ∧ w'.cell? ⟨b2, 4, none⟩ = some (.int .u16 (FA 4 : Int)) ∧ w'.cell? ⟨b2, 5, none⟩ = some (.int .u16 (FA 5 : Int)) ∧ w'.cell? ⟨b2, 6, none⟩ = some (.int .u16 (FA 6 : Int)) ∧ w'.cell? ⟨b2, 7, none⟩ = some (.int .u16 (FA 7 : Int)) ∧ w'.cell? ⟨b2, 0, none⟩ = some (.int .u16 (FA 0 : Int)) ∧ w'.cell? ⟨b2, 1, none⟩ = some (.int .u16 (FA 1 : Int)) ∧ w'.cell? ⟨b2, 2, none⟩ = some (.int .u16 (FA 2 : Int)) ∧ w'.cell? ⟨b2, 3, none⟩ = some (.int .u16 (FA 3 : Int)) ∧ w'.cell? ⟨b2, 4, none⟩ = some (.int .u16 (FA 4 : Int)) ∧ w'.cell? ⟨b2, 5, none⟩ = some (.int .u16 (FA 5 : Int)) ∧ w'.cell? ⟨b2, 6, none⟩ = some (.int .u16 (FA 6 : Int)) ∧ w'.cell? ⟨b2, 7, none⟩ = some (.int .u16 (FA 7 : Int))) (first | assumption | exact HTS.drew.all | exact TS.all (TS.keep (TS.one (by assumption)) (by assumption))) (first | (go_at_call 10; with_reducible refine (HT.out _ (HG.out.keep (TS.one (by assumption)).bel)).mono ?_; rintro e w3 ⟨rfl, hb3⟩) | (go_at_call 7; with_reducible refine (works_any _ (HG.out.keep (TS.one (by assumption)).bel)).mono ?_; rintro e w5 ⟨rfl, hb5⟩))) | fail)
          all_goals
            go_wp2_with fail
            go_ret
            exact ⟨rfl, (TS.one (by assumption)).bel⟩
  · have P9 : decide ((i : Int) < (k : Int)) = false := decide_eq_false (by omega)
    have P9' : decide (i < k) = false := decide_eq_false hik
    obtain ⟨L1, hLe⟩ : ∃ L1, L1 = L := ⟨_, rfl⟩
    rw [← hLe] at HA
    have hL' : L1.length = 8 := by rw [hLe]; exact hL
    have h16' : ∀ x ∈ L1, x < 65536 := by rw [hLe]; exact h16
    clear hLe
    obtain ⟨bb, hbb⟩ : ∃ bb : Int × Nat, bb = ((-1 : Int), 1) := ⟨_, rfl⟩
    have hgapP : GapP L1 bb := by
      rw [hbb]
      exact .inl ⟨rfl, rfl⟩
    have hb1 : bb.1 = -1 := by rw [hbb]
    have hb2 : (bb.2 : Int) = 1 := by rw [hbb]; rfl
    have hW : ∀ x ∈ L1, Wrt (hexW c no) x := fun x hx => hexW_wrt c no x (h16' x hx)
    have hW4 : ∀ x, x < 65536 → (hexW c no x).length ≤ 4 := fun x hx => (hex_is c no x hx).2.le
    have HLen := Aside0.mk (rwK_len (W := hexW c no) (L := L1) bb (fun x hx => hW4 x (h16' x hx)) (hW4 0 (by decide)))
    clear hbb
    go_upto_block 2 with (fail)
    go_cut [19] (fun v19 wx => ∃ T, v19 = .string (mkB T) ∧ Hid (sixA T = some L1) ∧ Hid (R8 wx w.heap.size 0 (pad8 L1)) ∧ Hid (Below w.heap.size w wx) ∧ T.length ≤ 1000)
    case first =>
      go_wp2_with fail
      go_loopw [19, 20] (fun v19 v20 wx => ∃ m : Nat, v20 = .int .i64 (m : Int) ∧ m ≤ 8 ∧ v19 = .string (mkB (rwK (hexW c no) L1 bb m)) ∧ Aside0 (R8 wx w.heap.size 0 (pad8 L1)) ∧ Aside0 (Below w.heap.size w wx)) (fun _ v20 _ => 8 - (intOf v20).toNat)
      case atStart => exact ⟨0, rfl, by omega, rfl, HA, HB⟩
      case round =>
        clear HA HB
        obtain ⟨m, rfl, hm8, rfl, HA, HB⟩ := hrel
        by_cases hm : m < 8
        · have hib : decide ((m : Int) < 8) = true := decide_eq_true (by omega)
          have hib2 : decide (m < 8) = true := decide_eq_true hm
          have hc := HA.out.at_ m hm
          rw [Nat.zero_add] at hc
          have hxm : pad8 L1 m < 65536 := pad_lt h16' m
          have hz0 := HLen.out m
          have hst : rwK (hexW c no) L1 bb (m + 1) = if 0 ≤ bb.1 ∧ bb.1 ≤ (m : Int) ∧ (m : Int) < bb.1 + (bb.2 : Int) then (if (m : Int) = bb.1 then rwK (hexW c no) L1 bb m ++ [58, 58] else rwK (hexW c no) L1 bb m) else (if 0 < m ∧ ((m : Int) ≠ bb.1 + (bb.2 : Int) ∨ bb.1 < 0) then (rwK (hexW c no) L1 bb m ++ [58]) ++ hexW c no (pad8 L1 m) else rwK (hexW c no) L1 bb m ++ hexW c no (pad8 L1 m)) := rfl
          have HH := Aside0.mk (fun W => hexcall c no (pad8 L1 m) hxm W)
          have hx4 := hW4 (pad8 L1 m) hxm
          generalize htt : rwK (hexW c no) L1 bb m = t at hst hz0 ⊢
          generalize pad8 L1 m = xm at hc hst HH hx4
          have hz1 : (9223372036854775807 < (mkB t).size + 1) = False := eq_false (by rw [mkB_size]; omega)
          have hz2 : (9223372036854775807 < (mkB t).size + 2) = False := eq_false (by rw [mkB_size]; omega)
          have hz3 : (9223372036854775807 < (mkB t).size + 1 + (mkB (hexW c no xm)).size) = False := eq_false (by rw [mkB_size, mkB_size]; omega)
          have hz5 : (9223372036854775807 < (mkB t).size + (mkB (hexW c no xm)).size) = False := eq_false (by rw [mkB_size, mkB_size]; omega)
          clear hx4 hxm
          have P0 : decide ((i : Int) < (k : Int)) = false := decide_eq_false (by omega)
          have P0' : decide (i < k) = false := decide_eq_false hik
          by_cases hm0 : m = 0
          · have g1 : decide ((0 : Int) < (m : Int)) = false := decide_eq_false (by omega)
            have g2 : decide (0 < m) = false := decide_eq_false (by omega)
            rw [if_neg (by omega), if_neg (by omega)] at hst
            replace hst := Aside0.mk hst
            cases d with
            | false =>
              try clear hm0
              go_wp2_with (first | (go_at_call 13; with_reducible refine (HH.out _).mono ?_; rintro e w2 ⟨rfl, hb2⟩; replace HB := Aside0.mk (below_step HB.out hb2); replace HA := Aside0.mk (HA.out.keep hb2 HA.out.lt8); clear hb2))
              exact ⟨⟨m + 1, by go_num, by omega, by rw [hst.out, mkB_append], HA, HB⟩, by simp [intOf]; omega⟩
            | true =>
              by_cases h6 : m = 6
              · have e6 : ((m : Int) == 6) = true := beq_iff_eq.2 (by omega)
                exfalso; omega
              · have e6 : ((m : Int) == 6) = false := beq_eq_false_iff_ne.2 (by omega)
                clear h6
                try clear hm0
                go_wp2_with (first | (go_at_call 13; with_reducible refine (HH.out _).mono ?_; rintro e w2 ⟨rfl, hb2⟩; replace HB := Aside0.mk (below_step HB.out hb2); replace HA := Aside0.mk (HA.out.keep hb2 HA.out.lt8); clear hb2))
                exact ⟨⟨m + 1, by go_num, by omega, by rw [hst.out, mkB_append], HA, HB⟩, by simp [intOf]; omega⟩
          · have g1 : decide ((0 : Int) < (m : Int)) = true := decide_eq_true (by omega)
            have g2 : decide (0 < m) = true := decide_eq_true (by omega)
            rw [if_neg (by omega), if_pos (by omega)] at hst
            replace hst := Aside0.mk hst
            cases d with
            | false =>
              try clear hm0
              go_wp2_with (first | (go_at_call 13; with_reducible refine (HH.out _).mono ?_; rintro e w2 ⟨rfl, hb2⟩; replace HB := Aside0.mk (below_step HB.out hb2); replace HA := Aside0.mk (HA.out.keep hb2 HA.out.lt8); clear hb2))
              exact ⟨⟨m + 1, by go_num, by omega, by rw [hst.out, show (⟨#[58]⟩ : ByteArray) = mkB [58] from rfl, mkB_append, mkB_append], HA, HB⟩, by simp [intOf]; omega⟩
            | true =>
              by_cases h6 : m = 6
              · have e6 : ((m : Int) == 6) = true := beq_iff_eq.2 (by omega)
                skip
                have hend : ∀ D, rdotF D = some (L1.drop 6) → D ≠ [] → 58 ∉ D → sixA (t ++ [58] ++ D) = some L1 := fun D h1 h2 h3 => by
                  have := back_dot hL' hW bb hgapP (by omega) D h1 h2 h3
                  unfold dotT at this
                  rw [if_pos (by omega)] at this
                  rw [← htt, h6]
                  exact this
                clear h6
                try clear hm0
                go_upto_region 21 with (fail)
                have ha6 := HA.out.at_ 6 (by decide)
                have ha7 := HA.out.at_ 7 (by decide)
                have hx6 : pad8 L1 6 < 65536 := pad_lt h16' 6
                have hx7 : pad8 L1 7 < 65536 := pad_lt h16' 7
                rw [Nat.zero_add] at ha6 ha7
                have hDS : DS w (pad8 L1) wr := ⟨HA.out, HB.out⟩
                have hdr := dotD_reads (pad8 L1 6) (pad8 L1 7) hx6 hx7
                have hdl := dotD_len (pad8 L1 6) (pad8 L1 7) hx6 hx7
                have hd6 : L1.drop 6 = [pad8 L1 6, pad8 L1 7] := drop_six L1 hL'
                rw [← hd6] at hdr
                have HT6 := hend _ hdr.1 hdr.2.1 hdr.2.2
                unfold dotD at HT6 hdl
                generalize pad8 L1 6 = x at ha6 hx6 HT6 hdl
                generalize pad8 L1 7 = y at ha7 hx7 HT6 hdl
                clear hdr hd6 hend
                obtain ⟨t0, ht0⟩ : ∃ t0, t0 = t ++ [58] := ⟨_, rfl⟩
                have hmt : mkB t ++ ⟨#[58]⟩ = mkB t0 := by rw [ht0, show (⟨#[58]⟩ : ByteArray) = mkB [58] from rfl, mkB_append]
                rw [← ht0] at HT6
                rw [hmt]
                clear hmt
                have ht1 := tencall ((x : Int) / 256) (x / 256) (by omega) (by omega)
                have ht2 := tencall (bits .and .u16 (x : Int) 255) (x % 256) (by omega) (and255 x hx6)
                have ht3 := tencall ((y : Int) / 256) (y / 256) (by omega) (by omega)
                have ht4 := tencall (bits .and .u16 (y : Int) 255) (y % 256) (by omega) (and255 y hx7)
                have hlen0 : t0.length ≤ 100 := by rw [ht0]; simp; omega
                generalize digs 10 (x / 256) = d1 at ht1 HT6 hdl
                generalize digs 10 (x % 256) = d2 at ht2 HT6 hdl
                generalize digs 10 (y / 256) = d3 at ht3 HT6 hdl
                generalize digs 10 (y % 256) = d4 at ht4 HT6 hdl
                simp only [List.length_append, List.length_cons] at hdl
                have hy0 : (9223372036854775807 < (mkB t0).size + (mkB d1).size) = False := eq_false (by simp only [mkB_size]; omega)
                have hy1 : (9223372036854775807 < (mkB t0).size + (mkB d1).size + 1) = False := eq_false (by simp only [mkB_size]; omega)
                have hy2 : (9223372036854775807 < (mkB t0).size + (mkB d1).size + 1 + (mkB d2).size) = False := eq_false (by simp only [mkB_size]; omega)
                have hy3 : (9223372036854775807 < (mkB t0).size + (mkB d1).size + 1 + (mkB d2).size + 1) = False := eq_false (by simp only [mkB_size]; omega)
                have hy4 : (9223372036854775807 < (mkB t0).size + (mkB d1).size + 1 + (mkB d2).size + 1 + (mkB d3).size) = False := eq_false (by simp only [mkB_size]; omega)
                have hy5 : (9223372036854775807 < (mkB t0).size + (mkB d1).size + 1 + (mkB d2).size + 1 + (mkB d3).size + 1) = False := eq_false (by simp only [mkB_size]; omega)
                have hy6 : (9223372036854775807 < (mkB t0).size + (mkB d1).size + 1 + (mkB d2).size + 1 + (mkB d3).size + 1 + (mkB d4).size) = False := eq_false (by simp only [mkB_size]; omega)
                have HTL : Aside0 ((t0 ++ (d1 ++ 46 :: (d2 ++ 46 :: (d3 ++ 46 :: d4)))).length ≤ 1000) := ⟨by simp only [List.length_append, List.length_cons]; omega⟩
                replace HT6 := Aside0.mk HT6
                replace hDS := Aside0.mk hDS
                clear HA HB hx6 hx7 hdl hlen0 ht0
                try clear htt
                (first | (go_region_held (fun w' => DS w (pad8 L1) w' ∧ w'.cell? ⟨w.heap.size, 6, none⟩ = some (.int .u16 (x : Int)) ∧ w'.cell? ⟨w.heap.size, 7, none⟩ = some (.int .u16 (y : Int))) (first | assumption | exact ⟨hDS.out.drew, ha6, ha7⟩ | exact DS.keep2 (by assumption) (by assumption)) (first | (go_at_call 12; with_reducible refine (ht1 _).mono ?_; rintro e w1 ⟨rfl, hb1⟩) | (go_at_call 12; with_reducible refine (ht2 _).mono ?_; rintro e w2 ⟨rfl, hb2⟩) | (go_at_call 12; with_reducible refine (ht3 _).mono ?_; rintro e w3 ⟨rfl, hb3⟩) | (go_at_call 12; with_reducible refine (ht4 _).mono ?_; rintro e w4 ⟨rfl, hb4⟩))) | fail)
                all_goals
                  have hDS2 := DS.one (by assumption)
                  go_wp2_with fail
                  go_meet
                  exact ⟨_, by simp only [mkB_append, show (⟨#[46]⟩ : ByteArray) = mkB [46] from rfl, List.append_assoc, List.cons_append, List.nil_append], Lib.hid HT6.out, Lib.hid hDS2.r, Lib.hid hDS2.b, HTL.out⟩
              · have e6 : ((m : Int) == 6) = false := beq_eq_false_iff_ne.2 (by omega)
                clear h6
                try clear hm0
                go_wp2_with (first | (go_at_call 13; with_reducible refine (HH.out _).mono ?_; rintro e w2 ⟨rfl, hb2⟩; replace HB := Aside0.mk (below_step HB.out hb2); replace HA := Aside0.mk (HA.out.keep hb2 HA.out.lt8); clear hb2))
                exact ⟨⟨m + 1, by go_num, by omega, by rw [hst.out, show (⟨#[58]⟩ : ByteArray) = mkB [58] from rfl, mkB_append, mkB_append], HA, HB⟩, by simp [intOf]; omega⟩
        · obtain rfl : m = 8 := by omega
          have hib : decide (((8 : Nat) : Int) < 8) = false := by decide
          have hend := back_all hL' hW bb hgapP
          have hz0 := HLen.out 8
          go_wp2_with fail
          go_meet
          exact ⟨_, rfl, Lib.hid hend, Lib.hid HA.out, Lib.hid HB.out, by omega⟩
    case rest =>
      clear HA HB HLen hW hW4 hgapP hb1 hb2
      obtain ⟨T, rfl, hTs, hTa, hTb, hTl⟩ := hcut
      have HA := Aside0.mk hTa.out
      have HB := Aside0.mk hTb.out
      have HP : Aside0 (∀ W, Calls Tryd.prog 8 #[.string (mkB T)] W fun e w' => e = .returned (.tuple #[.agg (cs8 (pad8 L1)).toArray, .int .i64 0]) ∧ Below W.heap.size W w') := ⟨fun W => (parse_any T W (by omega)).mono fun e w' h => ⟨by have := h.2; rw [hTs.out] at this; exact this, h.1⟩⟩
      clear hTs hTa hTb hTl
      have HT := Aside0.mk (fun W => text_lit L1 hL' h16' W)
      go_upto_region 24 with (first | (go_at_call 8; with_reducible refine (HP.out _).mono ?_; rintro e w1 ⟨rfl, hb1⟩) | (with_reducible refine wpList_store_mid rfl 23 _ _ rfl _ 0 (cs8 (pad8 L1)).toArray rfl rfl (th_8 (R8.fresh _) _) (info8a _) (one8 _) ?_))
      obtain ⟨W2, b2, e1, e2, hr2, hB2, hlt2⟩ := fresh_stored w1 (pad8 L1)
      replace HB := Aside0.mk (below_step (below_step HB.out hb1) hB2)
      have hAk := (HA.out.c8.keep hb1).keep hB2
      rw [e1, e2]
      clear e1 e2 hb1 hB2 HP HA hlt2
      have HTS : TS w w.heap.size b2 b2 (pad8 L1) (pad8 L1) W2 := ⟨hAk, hr2.c8, hr2.c8, HB.out⟩
      clear hAk hr2
      generalize pad8 L1 = FA at HTS HT ⊢
      have hEq := eq_lit FA
      (first | (go_region_held (fun w' => TS w w.heap.size b2 b2 (FA) (FA) w' ∧ w'.cell? ⟨w.heap.size, 0, none⟩ = some (.int .u16 (FA 0 : Int)) ∧ w'.cell? ⟨w.heap.size, 1, none⟩ = some (.int .u16 (FA 1 : Int)) ∧ w'.cell? ⟨w.heap.size, 2, none⟩ = some (.int .u16 (FA 2 : Int)) ∧ w'.cell? ⟨w.heap.size, 3, none⟩ = some (.int .u16 (FA 3 : Int)) ∧ w'.cell? ⟨w.heap.size, 4, none⟩ = some (.int .u16 (FA 4 : Int)) ∧ w'.cell? ⟨w.heap.size, 5, none⟩ = some (.int .u16 (FA 5 : Int)) ∧ w'.cell? ⟨w.heap.size, 6, none⟩ = some (.int .u16 (FA 6 : Int)) ∧ w'.cell? ⟨w.heap.size, 7, none⟩ = some (.int .u16 (FA 7 : Int)) ∧ w'.cell? ⟨b2, 0, none⟩ = some (.int .u16 (FA 0 : Int)) ∧ w'.cell? ⟨b2, 1, none⟩ = some (.int .u16 (FA 1 : Int)) ∧ w'.cell? ⟨b2, 2, none⟩ = some (.int .u16 (FA 2 : Int)) ∧ w'.cell? ⟨b2, 3, none⟩ = some (.int .u16 (FA 3 : Int)) ∧ w'.cell? ⟨b2, 4, none⟩ = some (.int .u16 (FA 4 : Int)) ∧ w'.cell? ⟨b2, 5, none⟩ = some (.int .u16 (FA 5 : Int)) ∧ w'.cell? ⟨b2, 6, none⟩ = some (.int .u16 (FA 6 : Int)) ∧ w'.cell? ⟨b2, 7, none⟩ = some (.int .u16 (FA 7 : Int)) ∧ w'.cell? ⟨b2, 0, none⟩ = some (.int .u16 (FA 0 : Int)) ∧ w'.cell? ⟨b2, 1, none⟩ = some (.int .u16 (FA 1 : Int)) ∧ w'.cell? ⟨b2, 2, none⟩ = some (.int .u16 (FA 2 : Int)) ∧ w'.cell? ⟨b2, 3, none⟩ = some (.int .u16 (FA 3 : Int)) ∧ w'.cell? ⟨b2, 4, none⟩ = some (.int .u16 (FA 4 : Int)) ∧ w'.cell? ⟨b2, 5, none⟩ = some (.int .u16 (FA 5 : Int)) ∧ w'.cell? ⟨b2, 6, none⟩ = some (.int .u16 (FA 6 : Int)) ∧ w'.cell? ⟨b2, 7, none⟩ = some (.int .u16 (FA 7 : Int))) (first | assumption | exact HTS.drew.all | exact TS.all (TS.keep (TS.one (by assumption)) (by assumption))) (first | (go_at_call 10; with_reducible refine (HT.out _ (HG.out.keep (TS.one (by assumption)).bel)).mono ?_; rintro e w3 ⟨rfl, hb3⟩) | (go_at_call 7; with_reducible refine (works_any _ (HG.out.keep (TS.one (by assumption)).bel)).mono ?_; rintro e w5 ⟨rfl, hb5⟩))) | fail)
      all_goals
        go_wp2_with fail
        go_ret
        exact ⟨rfl, (TS.one (by assumption)).bel⟩
theorem portcullislaw11_SixBack.walk (_P : True) (a0 : List Int) (a1 : Int) (a2 : Int) (a3 : Bool) (a4 : Bool) (a5 : Bool) (w : World) (l0 : a0.length = 8) (w0 : ∀ x ∈ a0, (Lit.int .u16 x).wf = true) (w1 : (Lit.int .u8 a1).wf = true) (w2 : (Lit.int .u8 a2).wf = true) (hG : WG w) :
    Calls Tryd.prog 4 #[.agg (intVals .u16 a0), .int .u8 a1, .int .u8 a2, .bool a3, .bool a4, .bool a5] w fun e w' => e = .returned (.bool true) ∧ Below w.heap.size w w' := by
  obtain ⟨L, hL, h16, e⟩ := arr_of l0 w0
  rw [e]
  obtain ⟨h1, h2⟩ : 0 ≤ a1 ∧ a1 < 256 := by
    simp [Lit.wf, IntKind.min, IntKind.max, IntKind.signed, IntKind.bits] at w1
    omega
  obtain ⟨h3, h4⟩ : 0 ≤ a2 ∧ a2 < 256 := by
    simp [Lit.wf, IntKind.min, IntKind.max, IntKind.signed, IntKind.bits] at w2
    omega
  obtain ⟨p, rfl⟩ := Int.eq_ofNat_of_zero_le h1
  obtain ⟨q, rfl⟩ := Int.eq_ofNat_of_zero_le h3
  exact back_go L hL h16 p q (by omega) (by omega) a3 a4 a5 w hG
end Go.Proofs.YtbgmepfejbbpaaaDoor.Pr
