import Derived.Test.YtlnlfglhboccpaaDoorHback
namespace Go.Proofs.YtlnlfglhboccpaaDoor.Pr
open Go.RowKit Go.Proofs.YtlnlfglhboccpaaDoorW.PrintWords Go.Proofs.YtlnlfglhboccpaaDoorW.PrintLast Go.Proofs.YtlnlfglhboccpaaDoorW.PrintMore
set_option linter.unusedVariables false
set_option linter.unusedSimpArgs false

def textG (ns : List Nat) (i : Nat) : List UInt8 := joinD ((ns.take i).map (digs 10))
/-- The sum as the law reckons it: octets, and the last number. -/
def sumG (n : Nat) (ns : List Nat) : Nat → Int
  | 0 => 0
  | i + 1 => if i + 1 = n then IntKind.u64.wrap (sumG n ns i + (ns.getD i 0 : Nat)) else IntKind.u64.wrap (sumG n ns i + ((ns.getD i 0 % 256 * 2 ^ (24 - 8 * i) : Nat) : Int))
def badG (n : Nat) (ns : List Nat) : Nat → Bool
  | 0 => false
  | i + 1 => badG n ns i || decide ((if i + 1 = n then 2 ^ (8 * (5 - n)) else 256) ≤ ns.getD i 0)
theorem textG_succ (ns : List Nat) (k : Nat) (hk : k < ns.length) : textG ns (k + 1) = if k = 0 then digs 10 (ns.getD k 0) else textG ns k ++ 46 :: digs 10 (ns.getD k 0) := by
  unfold textG
  rw [List.take_succ_eq_append_getElem hk, List.map_append, List.map_singleton]
  have e : ns.getD k 0 = ns[k] := by simp [List.getD, hk]
  rw [e]
  split
  · next h => subst h; rfl
  · next h =>
    refine joinD_snoc _ _ ?_
    intro e2
    have := congrArg List.length e2
    simp only [List.length_map, List.length_take, List.length_nil] at this
    omega
theorem textG_len (ns : List Nat) (h : ∀ x ∈ ns, x < 18446744073709551616) : ∀ k : Nat, (textG ns k).length ≤ 68 * k
  | 0 => by simp [textG, joinD]
  | k + 1 => by
    have ih := textG_len ns h k
    rcases Nat.lt_or_ge k ns.length with hk | hk
    · have e : ns.getD k 0 = ns[k] := by simp [List.getD, hk]
      have hd := digs_length 10 (by decide) 64 (ns.getD k 0) (by rw [e]; exact h _ (List.getElem_mem hk))
      rw [textG_succ ns k hk]
      split
      · omega
      · simp only [List.length_append, List.length_cons]; omega
    · have e : textG ns (k + 1) = textG ns k := by
        unfold textG
        rw [List.take_of_length_le hk, List.take_of_length_le (by omega)]
      rw [e]; omega
theorem sumG_bd (n : Nat) (ns : List Nat) : ∀ k : Nat, 0 ≤ sumG n ns k ∧ sumG n ns k < 18446744073709551616
  | 0 => by simp [sumG]
  | k + 1 => by
    have hw : ∀ x : Int, 0 ≤ IntKind.u64.wrap x ∧ IntKind.u64.wrap x < 18446744073709551616 := by
      intro x
      rw [IntKind.wrap_u64]
      omega
    unfold sumG
    split <;> exact hw _
theorem mask_255 (m k : Nat) (hk : k ≤ 3) (hm : m < 18446744073709551616) : IntKind.u64.wrap (bits .and .u64 (m : Int) 255 * 2 ^ (24 - 8 * k)) = ((m % 256 * 2 ^ (24 - 8 * k) : Nat) : Int) := by
  have hkk : ∀ m : Int, 0 ≤ m → m < 2 ^ 64 → IntKind.u64.wrap m = m := fun m h0 h1 => uwrap_small h0 (by omega)
  have h := bits_mask .u64 64 (by decide) hkk 8 (by decide) (m : Int) (by omega) (by omega)
  have h2 : (2 : Int) ^ 8 - 1 = 255 := by decide
  rw [h2] at h
  rw [h]
  have e : ((m : Int) % 2 ^ 8) * 2 ^ (24 - 8 * k) = ((m % 256 * 2 ^ (24 - 8 * k) : Nat) : Int) := by
    rw [Int.natCast_mul, Int.natCast_pow, Int.natCast_emod]; rfl
  rw [e]
  have h3 : (2 : Nat) ^ (24 - 8 * k) ≤ 2 ^ 24 := Nat.pow_le_pow_right (by decide) (by omega)
  have h4 : m % 256 * 2 ^ (24 - 8 * k) ≤ 256 * 2 ^ 24 := Nat.mul_le_mul (by omega) h3
  generalize m % 256 * 2 ^ (24 - 8 * k) = x at h4
  exact uwrap_small (by omega) (by omega)
theorem room_last (m n : Nat) (h1 : 1 ≤ n) (h4 : n ≤ 4) : decide (IntKind.u64.wrap (2 ^ (8 * (5 - n))) ≤ (m : Int)) = decide (2 ^ (8 * (5 - n)) ≤ m) := by
  have h : (2 : Nat) ^ (8 * (5 - n)) ≤ 2 ^ 32 := Nat.pow_le_pow_right (by decide) (by omega)
  have e : (2 : Int) ^ (8 * (5 - n)) = ((2 ^ (8 * (5 - n)) : Nat) : Int) := (Int.natCast_pow 2 _).symm
  rw [e]
  generalize (2 : Nat) ^ (8 * (5 - n)) = P at h
  rw [uwrap_small (by omega) (by omega)]
  exact decide_eq_decide.2 (by omega)
structure GAt (w w' : World) (ns : List Nat) : Prop where
  sz : w.heap.size < w'.heap.size
  at_ : ∀ i : Nat, i < ns.length → w'.cell? ⟨w.heap.size, i, none⟩ = some (.int .u64 ((ns.getD i 0 : Nat) : Int))
  bel : Below w.heap.size w w'
theorem GAt.keep {w w' w1 : World} {ns : List Nat} (h : GAt w w' ns) (hb : Below w'.heap.size w' w1) : GAt w w1 ns :=
  ⟨Nat.lt_of_lt_of_le h.sz hb.size, fun i hi => (hb.cell (p := ⟨w.heap.size, i, none⟩) h.sz).trans (h.at_ i hi), below_step h.bel hb⟩
theorem GAt.start (w : World) (ns : List Nat) (t : TypeId) : GAt w (w.alloc (.cells (intVals .u64 (ns.map fun n : Nat => (n : Int))) t)) ns := by
  refine ⟨by simp, fun i hi => ?_, below_alloc (Below.refl _ _) _⟩
  rw [World.cell?_alloc_new]
  simp [intVals, List.getD, hi]
set_option maxHeartbeats 4000000 in
theorem great_go (ns : List Nat) (hl : ns.length = 4) (hns : ∀ x ∈ ns, x < 18446744073709551616) (p n : Nat) (hn : n = p % 4 + 1) (hp : p < 256) (w : World) (hG : WG w) (x e : Int) (hx0 : 0 ≤ x) (hx1 : x < 4294967296)
    (hpc : ∀ w, Calls Tryd.prog 10 #[.string (mkB (textG ns n))] w fun e' w' => e' = .returned (.tuple #[.int .u32 x, .int .i64 e]) ∧ Below w.heap.size w w')
    (hbad : badG n ns n = true → x = 0 ∧ e = 4) (hok : badG n ns n = false → e = 0 ∧ x = sumG n ns n) :
    Calls Tryd.prog 6 #[.agg (intVals .u64 (ns.map fun n : Nat => (n : Int))), .int .u8 (p : Int)] w fun e w' => e = .returned (.bool true) ∧ Below w.heap.size w w' := by
  have HP := Lib.hid hpc
  have HB := Lib.hid hbad
  have HO := Lib.hid hok
  have HG := Lib.hid hG
  have HS := Lib.hid (GAt.start w ns 38)
  clear hpc hbad hok hG
  go_enter Tryd.func6, Tryd.ntmps6
  go_upto_block 0 with (fail)
  rw [show ((p : Int) % 4 + 1) = (n : Int) by omega]
  have hn4 : n ≤ 4 := by omega
  have hn1 : 1 ≤ n := by omega
  clear hn
  go_cut [6, 7, 8] (fun v6 v7 v8 wx => v6 = .string (mkB (textG ns n)) ∧ v7 = .bool (badG n ns n) ∧ v8 = .int .u64 (sumG n ns n) ∧ Hid (GAt w wx ns))
  case first =>
    go_wp2_with (fail)
    go_loopw [6, 7, 8, 9] (fun v6 v7 v8 v9 wr => ∃ k : Nat, k ≤ n ∧ v9 = .int .i64 (k : Int) ∧ v6 = .string (mkB (textG ns k)) ∧ v7 = .bool (badG n ns k) ∧ v8 = .int .u64 (sumG n ns k) ∧ Hid (GAt w wr ns)) (fun _ _ _ v9 _ => n - (intOf v9).toNat)
    case atStart => exact ⟨0, Nat.zero_le _, rfl, rfl, rfl, rfl, HS⟩
    case round =>
      obtain ⟨k, hk, rfl, rfl, rfl, rfl, HS⟩ := hrel
      by_cases hlt : k < n
      · have hc := HS.out.at_ k (by omega)
        have hm := hns (ns.getD k 0) (by rw [List.getD_eq_getElem?_getD, List.getElem?_eq_getElem (by omega)]; exact List.getElem_mem _)
        have hsucc := textG_succ ns k (by omega)
        have hl1 := textG_len ns hns k
        have hb : badG n ns (k + 1) = (badG n ns k || decide ((if k + 1 = n then 2 ^ (8 * (5 - n)) else 256) ≤ ns.getD k 0)) := rfl
        have hs : sumG n ns (k + 1) = if k + 1 = n then IntKind.u64.wrap (sumG n ns k + (ns.getD k 0 : Nat)) else IntKind.u64.wrap (sumG n ns k + ((ns.getD k 0 % 256 * 2 ^ (24 - 8 * k) : Nat) : Int)) := rfl
        have hs0 := sumG_bd n ns k
        generalize hmd : ns.getD k 0 = m at hc hm hsucc hb hs
        have HMD := Lib.hid hmd
        clear hmd
        generalize sumG n ns k = sm at hs hs0
        have hl2 := digs_length 10 (by decide) 64 m hm
        have hw : ∀ w, Calls Tryd.prog 16 #[.int .u64 ((m : Nat) : Int), .int .u8 2] w fun e w' => e = .returned (.string (mkB (digs 10 m))) ∧ Below w.heap.size w w' := by
          intro w
          refine portcullislaw10_written.calls _ _ _ w ?_
          unfold portcullislaw10_written.f
          rw [if_pos ⟨by omega, by omega, by omega, by omega⟩]
          rfl
        replace hw := Lib.hid hw
        have hz1 : (9223372036854775807 < (mkB (textG ns k)).size + 1) = False := eq_false (by rw [mkB_size]; omega)
        have hz3 : (9223372036854775807 < (mkB (textG ns k)).size + 1 + (mkB (digs 10 m)).size) = False := eq_false (by rw [mkB_size, mkB_size]; omega)
        have hz4 : (9223372036854775807 < (mkB (textG ns k)).size + (mkB (digs 10 m)).size) = False := eq_false (by rw [mkB_size, mkB_size]; omega)
        clear hl1 hl2
        have hm0 : (0 : Int) ≤ (m : Int) := by omega
        have hm1 : (m : Int) < 18446744073709551616 := by omega
        by_cases hl : k + 1 = n
        · have h1 : decide ((k : Int) < (n : Int) - 1) = false := decide_eq_false (by omega)
          rw [if_pos hl] at hb hs
          have HBD := Lib.hid hb
          have HSM := Lib.hid hs
          clear hb hs
          by_cases hz : k = 0
          · have hz' : decide (0 < k) = false := decide_eq_false (by omega)
            have hz2 : decide ((0 : Int) < (k : Int)) = false := decide_eq_false (by omega)
            have ht0 : textG ns k = [] := by rw [hz]; rfl
            rw [if_pos hz] at hsucc
            have HX := Lib.hid hsucc
            have HZ := Lib.hid ht0
            clear hsucc hz hl ht0
            cases hbk : badG n ns k with
            | true =>
              have HK := Lib.hid hbk
              clear hbk
              go_wp2_with (go_at_call 16; refine (hw.out _).mono ?_; rintro e w2 ⟨rfl, hb2⟩; replace HS := Lib.hid (HS.out.keep hb2); have hc2 := HS.out.at_ k (by omega); rw [HMD.out] at hc2; clear hb2)
              exact ⟨⟨k + 1, by omega, by go_num, by rw [HX.out, HZ.out, mkB_append]; rfl, by rw [HBD.out, HK.out]; rfl, by rw [HSM.out], HS⟩, by simp [intOf]; omega⟩
            | false =>
              have HK := Lib.hid hbk
              clear hbk
              go_wp2_with (go_at_call 16; refine (hw.out _).mono ?_; rintro e w2 ⟨rfl, hb2⟩; replace HS := Lib.hid (HS.out.keep hb2); have hc2 := HS.out.at_ k (by omega); rw [HMD.out] at hc2; clear hb2)
              exact ⟨⟨k + 1, by omega, by go_num, by rw [HX.out, HZ.out, mkB_append]; rfl, by rw [HBD.out, HK.out, Bool.false_or]; exact congrArg Value.bool (room_last _ _ hn1 hn4), by rw [HSM.out], HS⟩, by simp [intOf]; omega⟩
          · have hz' : decide (0 < k) = true := decide_eq_true (by omega)
            have hz2 : decide ((0 : Int) < (k : Int)) = true := decide_eq_true (by omega)
            rw [if_neg hz] at hsucc
            have HX := Lib.hid hsucc
            clear hsucc hz hl
            cases hbk : badG n ns k with
            | true =>
              have HK := Lib.hid hbk
              clear hbk
              go_wp2_with (go_at_call 16; refine (hw.out _).mono ?_; rintro e w2 ⟨rfl, hb2⟩; replace HS := Lib.hid (HS.out.keep hb2); have hc2 := HS.out.at_ k (by omega); rw [HMD.out] at hc2; clear hb2)
              exact ⟨⟨k + 1, by omega, by go_num, by rw [HX.out, show (⟨#[46]⟩ : ByteArray) = mkB [46] from rfl, mkB_append, mkB_append, List.append_assoc]; rfl, by rw [HBD.out, HK.out]; rfl, by rw [HSM.out], HS⟩, by simp [intOf]; omega⟩
            | false =>
              have HK := Lib.hid hbk
              clear hbk
              go_wp2_with (go_at_call 16; refine (hw.out _).mono ?_; rintro e w2 ⟨rfl, hb2⟩; replace HS := Lib.hid (HS.out.keep hb2); have hc2 := HS.out.at_ k (by omega); rw [HMD.out] at hc2; clear hb2)
              exact ⟨⟨k + 1, by omega, by go_num, by rw [HX.out, show (⟨#[46]⟩ : ByteArray) = mkB [46] from rfl, mkB_append, mkB_append, List.append_assoc]; rfl, by rw [HBD.out, HK.out, Bool.false_or]; exact congrArg Value.bool (room_last _ _ hn1 hn4), by rw [HSM.out], HS⟩, by simp [intOf]; omega⟩
        · have h1 : decide ((k : Int) < (n : Int) - 1) = true := decide_eq_true (by omega)
          rw [if_neg hl] at hb hs
          have HBD := Lib.hid hb
          have HSM := Lib.hid hs
          have HMB := Lib.hid hm
          clear hb hs
          by_cases hz : k = 0
          · have hz' : decide (0 < k) = false := decide_eq_false (by omega)
            have hz2 : decide ((0 : Int) < (k : Int)) = false := decide_eq_false (by omega)
            have ht0 : textG ns k = [] := by rw [hz]; rfl
            rw [if_pos hz] at hsucc
            have HX := Lib.hid hsucc
            have HZ := Lib.hid ht0
            clear hsucc hz hl ht0
            cases hbk : badG n ns k with
            | true =>
              have HK := Lib.hid hbk
              clear hbk
              go_wp2_with (go_at_call 16; refine (hw.out _).mono ?_; rintro e w2 ⟨rfl, hb2⟩; replace HS := Lib.hid (HS.out.keep hb2); have hc2 := HS.out.at_ k (by omega); rw [HMD.out] at hc2; clear hb2)
              exact ⟨⟨k + 1, by omega, by go_num, by rw [HX.out, HZ.out, mkB_append]; rfl, by rw [HBD.out, HK.out]; rfl, by rw [HSM.out, mask_255 m k (by omega) HMB.out], HS⟩, by simp [intOf]; omega⟩
            | false =>
              have HK := Lib.hid hbk
              clear hbk
              go_wp2_with (go_at_call 16; refine (hw.out _).mono ?_; rintro e w2 ⟨rfl, hb2⟩; replace HS := Lib.hid (HS.out.keep hb2); have hc2 := HS.out.at_ k (by omega); rw [HMD.out] at hc2; clear hb2)
              exact ⟨⟨k + 1, by omega, by go_num, by rw [HX.out, HZ.out, mkB_append]; rfl, by rw [HBD.out, HK.out, Bool.false_or]; exact congrArg Value.bool (decide_eq_decide.2 (by omega)), by rw [HSM.out, mask_255 m k (by omega) HMB.out], HS⟩, by simp [intOf]; omega⟩
          · have hz' : decide (0 < k) = true := decide_eq_true (by omega)
            have hz2 : decide ((0 : Int) < (k : Int)) = true := decide_eq_true (by omega)
            rw [if_neg hz] at hsucc
            have HX := Lib.hid hsucc
            clear hsucc hz hl
            cases hbk : badG n ns k with
            | true =>
              have HK := Lib.hid hbk
              clear hbk
              go_wp2_with (go_at_call 16; refine (hw.out _).mono ?_; rintro e w2 ⟨rfl, hb2⟩; replace HS := Lib.hid (HS.out.keep hb2); have hc2 := HS.out.at_ k (by omega); rw [HMD.out] at hc2; clear hb2)
              exact ⟨⟨k + 1, by omega, by go_num, by rw [HX.out, show (⟨#[46]⟩ : ByteArray) = mkB [46] from rfl, mkB_append, mkB_append, List.append_assoc]; rfl, by rw [HBD.out, HK.out]; rfl, by rw [HSM.out, mask_255 m k (by omega) HMB.out], HS⟩, by simp [intOf]; omega⟩
            | false =>
              have HK := Lib.hid hbk
              clear hbk
              go_wp2_with (go_at_call 16; refine (hw.out _).mono ?_; rintro e w2 ⟨rfl, hb2⟩; replace HS := Lib.hid (HS.out.keep hb2); have hc2 := HS.out.at_ k (by omega); rw [HMD.out] at hc2; clear hb2)
              exact ⟨⟨k + 1, by omega, by go_num, by rw [HX.out, show (⟨#[46]⟩ : ByteArray) = mkB [46] from rfl, mkB_append, mkB_append, List.append_assoc]; rfl, by rw [HBD.out, HK.out, Bool.false_or]; exact congrArg Value.bool (decide_eq_decide.2 (by omega)), by rw [HSM.out, mask_255 m k (by omega) HMB.out], HS⟩, by simp [intOf]; omega⟩
      · obtain rfl : k = n := by omega
        go_wp2_with fail
        go_meet
        exact ⟨rfl, rfl, rfl, HS⟩
  case rest =>
    obtain ⟨rfl, rfl, rfl, HS⟩ := hcut
    cases hbn : badG n ns n with
    | true =>
      obtain ⟨rfl, rfl⟩ := HB.out hbn
      clear hbn
      go_wp2_with (first | (go_at_call 10; refine (HP.out _).mono ?_; rintro e w4 ⟨rfl, hb2⟩; replace HS := Lib.hid (HS.out.keep hb2); clear hb2) | (go_at_call 7; refine (works_call _ (HG.out.keep HS.out.bel)).mono ?_; rintro e w5 ⟨rfl, hb2⟩; replace HS := Lib.hid (HS.out.keep hb2); clear hb2))
      go_ret
      exact ⟨rfl, HS.out.bel⟩
    | false =>
      obtain ⟨rfl, hxs⟩ := HO.out hbn
      rw [← hxs]
      clear hbn hxs
      have hx2 : x < 18446744073709551616 := by omega
      go_wp2_with (first | (go_at_call 10; refine (HP.out _).mono ?_; rintro e w4 ⟨rfl, hb2⟩; replace HS := Lib.hid (HS.out.keep hb2); clear hb2) | (go_at_call 7; refine (works_call _ (HG.out.keep HS.out.bel)).mono ?_; rintro e w5 ⟨rfl, hb2⟩; replace HS := Lib.hid (HS.out.keep hb2); clear hb2))
      go_ret
      exact ⟨rfl, HS.out.bel⟩
/-! ### What is read of it -/
theorem great_facts (ns : List Nat) (hl : ns.length = 4) (n : Nat) (h1 : 1 ≤ n) (h4 : n ≤ 4) : badG n ns n = greatT n 0 (ns.take n) ∧ (badG n ns n = false → sumG n ns n = ((sumT n 0 (ns.take n) : Nat) : Int)) := by
  match ns, hl with
  | [a, b, c, d], _ =>
    have hw : ∀ x : Int, 0 ≤ x → x ≤ 18446744073709551615 → IntKind.u64.wrap x = x := fun x h0 h1 => uwrap_small h0 h1
    rcases (by omega : n = 1 ∨ n = 2 ∨ n = 3 ∨ n = 4) with rfl | rfl | rfl | rfl
    · refine ⟨by simp [badG, greatT, Bool.or_assoc], fun h => ?_⟩
      simp [badG] at h
      simp [sumG, sumT]
      rw [hw _ (by omega) (by omega)]
    · refine ⟨by simp [badG, greatT, Bool.or_assoc], fun h => ?_⟩
      simp [badG] at h
      simp [sumG, sumT]
      rw [hw ((a : Int) % 256 * 16777216) (by omega) (by omega), hw _ (by omega) (by omega)]
      omega
    · refine ⟨by simp [badG, greatT, Bool.or_assoc], fun h => ?_⟩
      simp [badG] at h
      simp [sumG, sumT]
      rw [hw ((a : Int) % 256 * 16777216) (by omega) (by omega), hw ((a : Int) % 256 * 16777216 + (b : Int) % 256 * 65536) (by omega) (by omega), hw _ (by omega) (by omega)]
      omega
    · refine ⟨by simp [badG, greatT, Bool.or_assoc], fun h => ?_⟩
      simp [badG] at h
      simp [sumG, sumT]
      rw [hw ((a : Int) % 256 * 16777216) (by omega) (by omega), hw ((a : Int) % 256 * 16777216 + (b : Int) % 256 * 65536) (by omega) (by omega), hw ((a : Int) % 256 * 16777216 + (b : Int) % 256 * 65536 + (c : Int) % 256 * 256) (by omega) (by omega), hw _ (by omega) (by omega)]
      omega
theorem textG_parse (ns : List Nat) (hl : ns.length = 4) (n : Nat) (h1 : 1 ≤ n) (h4 : n ≤ 4) : parseB (mkB (textG ns n)) = if greatT n 0 (ns.take n) = true then (0, 4) else ((sumT n 0 (ns.take n) : Int), 0) := by
  have hlen : (ns.take n).length = n := by rw [List.length_take]; omega
  have hne : (ns.take n).map (digs 10) ≠ [] := by
    intro e
    have := congrArg List.length e
    simp only [List.length_map, hlen, List.length_nil] at this
    omega
  have f := (parts_join ((ns.take n).map (digs 10)) hne (by
    intro p hp
    obtain ⟨i, _, rfl⟩ := List.mem_map.1 hp
    intro c hc
    obtain ⟨d, hd, rfl⟩ := digs_mem 10 (by decide) (by decide) i c hc
    exact (hexc_is d (by omega)).2.1) (by
    intro p hp
    obtain ⟨i, _, rfl⟩ := List.mem_map.1 hp
    exact digs_ne _ _)).1
  unfold parseB textG
  rw [f, if_neg (by simp [hlen]; omega), List.map_map, List.map_map]
  have hv : (ns.take n).map ((numF ∘ mkB) ∘ digs 10) = (ns.take n).map numOf := List.map_congr_left fun i _ => numF_dec i
  rw [hv, parF_nums _ (by omega) (by omega), hlen]
theorem portcullislaw10_FourGreat.walk (_P : True) (a0 : List Int) (a1 : Int) (w : World) (l0 : a0.length = 4) (w0 : ∀ x ∈ a0, (Lit.int .u64 x).wf = true) (w1 : (Lit.int .u8 a1).wf = true) (hG : WG w) :
    Calls Tryd.prog 6 #[.agg (intVals .u64 a0), .int .u8 a1] w fun e w' => e = .returned (.bool true) ∧ Below w.heap.size w w' := by
  obtain ⟨h2, h3⟩ : 0 ≤ a1 ∧ a1 < 256 := by
    simp [Lit.wf, IntKind.min, IntKind.max, IntKind.signed, IntKind.bits] at w1
    omega
  have hz : ∀ x ∈ a0, 0 ≤ x ∧ x < 18446744073709551616 := by
    intro x hx
    have h := w0 x hx
    simp [Lit.wf, IntKind.min, IntKind.max, IntKind.signed, IntKind.bits] at h
    omega
  obtain ⟨ns, hns, hn2⟩ : ∃ ns : List Nat, a0 = ns.map (fun n : Nat => (n : Int)) ∧ ∀ x ∈ ns, x < 18446744073709551616 := by
    refine ⟨a0.map Int.toNat, ?_, ?_⟩
    · rw [List.map_map]
      conv => lhs; rw [← List.map_id a0]
      exact List.map_congr_left fun x hx => by have := hz x hx; simp; omega
    · intro x hx
      obtain ⟨y, hy, rfl⟩ := List.mem_map.1 hx
      have := hz y hy
      omega
  subst hns
  rw [List.length_map] at l0
  obtain ⟨p, rfl⟩ := Int.eq_ofNat_of_zero_le h2
  have f := great_facts ns l0 (p % 4 + 1) (by omega) (by omega)
  have t := textG_parse ns l0 (p % 4 + 1) (by omega) (by omega)
  have l := textG_len ns hn2 (p % 4 + 1)
  have hlen : (ns.take (p % 4 + 1)).length = p % 4 + 1 := by rw [List.length_take]; omega
  by_cases hg : greatT (p % 4 + 1) 0 (ns.take (p % 4 + 1)) = true
  · rw [if_pos hg] at t
    exact great_go ns l0 hn2 p (p % 4 + 1) rfl (by omega) w hG 0 4 (by decide) (by decide) (fun w => parse_call _ (by omega) _ _ t w) (fun _ => ⟨rfl, rfl⟩) (fun h => by rw [f.1, hg] at h; cases h)
  · rw [if_neg hg] at t
    have hg' : greatT (p % 4 + 1) 0 (ns.take (p % 4 + 1)) = false := by simpa using hg
    have hs := (not_great (p % 4 + 1) (by omega) (by omega) _ hlen hg').2
    exact great_go ns l0 hn2 p (p % 4 + 1) rfl (by omega) w hG _ 0 (by omega) (by omega) (fun w => parse_call _ (by omega) _ _ t w) (fun h => by rw [f.1, hg'] at h; cases h) (fun h => ⟨rfl, (f.2 h).symm⟩)
end Go.Proofs.YtlnlfglhboccpaaDoor.Pr
