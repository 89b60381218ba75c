import Derived.Test.YtlnlfglhboccpaaDoorGjn
import Derived.Test.YtlnlfglhboccpaaDoorArr
namespace Go.Proofs.YtlnlfglhboccpaaDoor.Pr
open Go.RowKit Go.Proofs.YtlnlfglhboccpaaDoorW.PrintWords Go.Proofs.YtlnlfglhboccpaaDoorW.PrintLast Go.Proofs.YtlnlfglhboccpaaDoorW.PrintMore
set_option linter.unusedVariables false
set_option linter.unusedSimpArgs false

def valB (a n i : Nat) : Nat := if i + 1 = n then a % 2 ^ (8 * (5 - n)) else a / 2 ^ (24 - 8 * i) % 256
def pieceB (a n : Nat) (bs : List Int) (i : Nat) : List UInt8 := wrL (valB a n i) ((bs.getD i 0).toNat % 3)
def textB (a n : Nat) (bs : List Int) (i : Nat) : List UInt8 := joinD ((List.range i).map (pieceB a n bs))
theorem valB_lt (a n i : Nat) (ha : a < 4294967296) : valB a n i < 4294967296 := by
  unfold valB
  split
  · exact Nat.lt_of_le_of_lt (Nat.mod_le _ _) ha
  · omega
theorem pieceB_len (a n : Nat) (bs : List Int) (i : Nat) (ha : a < 4294967296) : (pieceB a n bs i).length ≤ 67 := wrL_len _ _ (by have := valB_lt a n i ha; omega)
theorem textB_succ (a n : Nat) (bs : List Int) (k : Nat) : textB a n bs (k + 1) = if k = 0 then pieceB a n bs k else textB a n bs k ++ 46 :: pieceB a n bs k := by
  unfold textB
  rw [List.range_succ, List.map_append, List.map_singleton]
  split
  · next h => subst h; rfl
  · next h => exact joinD_snoc _ _ (by simp; omega)
theorem textB_len (a n : Nat) (bs : List Int) (ha : a < 4294967296) : ∀ k : Nat, (textB a n bs k).length ≤ 68 * k
  | 0 => by simp [textB, joinD]
  | k + 1 => by
    have ih := textB_len a n bs ha k
    have hk := pieceB_len a n bs k ha
    rw [textB_succ]
    split
    · omega
    · simp only [List.length_append, List.length_cons]; omega
theorem mask_last (a n : Nat) (ha : a < 4294967296) (h1 : 1 ≤ n) (h4 : n ≤ 4) : bits .and .u64 (a : Int) (IntKind.u64.wrap (IntKind.u64.wrap (2 ^ (8 * (5 - n))) - 1)) = ((a % 2 ^ (8 * (5 - n)) : Nat) : Int) := by
  have hk : ∀ m : Int, 0 ≤ m → m < 2 ^ 64 → IntKind.u64.wrap m = m := fun m h0 h1 => uwrap_small h0 (by omega)
  have key : ∀ i : Nat, i ≤ 32 → IntKind.u64.wrap (IntKind.u64.wrap (2 ^ i) - 1) = 2 ^ i - 1 := by
    intro i hi
    have h : (2 : Nat) ^ i ≤ 2 ^ 32 := Nat.pow_le_pow_right (by decide) hi
    have hp : 0 < (2 : Nat) ^ i := Nat.two_pow_pos i
    have e : (2 : Int) ^ i = ((2 ^ i : Nat) : Int) := (Int.natCast_pow 2 i).symm
    rw [e]
    generalize (2 : Nat) ^ i = P at h hp ⊢
    rw [uwrap_small (a := (P : Int)) (by omega) (by omega), uwrap_small (by omega) (by omega)]
  rw [key _ (by omega), bits_mask .u64 64 (by decide) hk (8 * (5 - n)) (by omega) _ (by omega) (by omega)]
  have e : (2 : Int) ^ (8 * (5 - n)) = ((2 ^ (8 * (5 - n)) : Nat) : Int) := (Int.natCast_pow 2 _).symm
  rw [e, Int.natCast_emod]
theorem mask_oct (a k : Nat) (ha : a < 4294967296) : bits .and .u64 (IntKind.u64.wrap ((a : Int) / 2 ^ (24 - 8 * k))) 255 = ((a / 2 ^ (24 - 8 * k) % 256 : Nat) : Int) := by
  have hk : ∀ m : Int, 0 ≤ m → m < 2 ^ 64 → IntKind.u64.wrap m = m := fun m h0 h1 => uwrap_small h0 (by omega)
  have e : (a : Int) / 2 ^ (24 - 8 * k) = ((a / 2 ^ (24 - 8 * k) : Nat) : Int) := by
    rw [Int.natCast_ediv, Int.natCast_pow]; rfl
  have hle : a / 2 ^ (24 - 8 * k) ≤ a := Nat.div_le_self _ _
  rw [e]
  generalize a / 2 ^ (24 - 8 * k) = x at hle
  rw [uwrap_small (by omega) (by omega)]
  have h := bits_mask .u64 64 (by decide) hk 8 (by decide) (x : Int) (by omega) (by omega)
  have h2 : (2 : Int) ^ 8 - 1 = 255 := by decide
  rw [h2] at h
  rw [h, Int.natCast_emod]; rfl
/-- What the walk keeps: the bases in their block. -/
structure BAt (w w' : World) (bs : List Int) : Prop where
  sz : w.heap.size < w'.heap.size
  at_ : ∀ i : Nat, i < bs.length → w'.cell? ⟨w.heap.size, i, none⟩ = some (.int .u8 (bs.getD i 0))
  bel : Below w.heap.size w w'
theorem BAt.keep {w w' w1 : World} {bs : List Int} (h : BAt w w' bs) (hb : Below w'.heap.size w' w1) : BAt w w1 bs :=
  ⟨Nat.lt_of_lt_of_le h.sz hb.size, fun i hi => (hb.cell (p := ⟨w.heap.size, i, none⟩) h.sz).trans (h.at_ i hi), below_step h.bel hb⟩
theorem BAt.start (w : World) (bs : List Int) (t : TypeId) : BAt w (w.alloc (.cells (intVals .u8 bs) t)) bs := by
  refine ⟨by simp, fun i hi => ?_, below_alloc (Below.refl _ _) _⟩
  rw [World.cell?_alloc_new]
  simp [intVals, List.getD, hi]
set_option maxHeartbeats 4000000 in
theorem back_go (a : Nat) (ha : a < 4294967296) (bs : List Int) (hbl : bs.length = 4) (hbs : ∀ x ∈ bs, 0 ≤ x ∧ x < 256) (p n : Nat) (hn : n = p % 4 + 1) (hp : p < 256) (w : World) (hG : WG w)
    (ht : ∀ w, WG w → Calls Tryd.prog 14 #[.int .u32 (a : Int)] w fun e w' => e = .returned (.string (mkB (textL a))) ∧ Below w.heap.size w w')
    (hq : ∀ w, Calls Tryd.prog 10 #[.string (mkB (textL a))] w fun e w' => e = .returned (.tuple #[.int .u32 (a : Int), .int .i64 0]) ∧ Below w.heap.size w w')
    (he : ∀ w, Calls Tryd.prog 12 #[.string (mkB (textL a))] w fun e w' => e = .returned (.bool true) ∧ Below w.heap.size w w')
    (hp1 : ∀ w, Calls Tryd.prog 10 #[.string (mkB (textB a n bs n))] w fun e w' => e = .returned (.tuple #[.int .u32 (a : Int), .int .i64 0]) ∧ Below w.heap.size w w')
    (hp2 : ∀ w, Calls Tryd.prog 10 #[.string (mkB (textB a n bs n) ++ ⟨#[46]⟩)] w fun e w' => e = .returned (.tuple #[.int .u32 (a : Int), .int .i64 0]) ∧ Below w.heap.size w w')
    (he2 : ∀ w, Calls Tryd.prog 12 #[.string (mkB (textB a n bs n))] w fun e w' => e = .returned (.bool true) ∧ Below w.heap.size w w')
    (hwk : ∀ w, WG w → Calls Tryd.prog 7 #[] w fun e w' => e = .returned (.bool true) ∧ Below w.heap.size w w') :
    Calls Tryd.prog 4 #[.int .u32 (a : Int), .agg (intVals .u8 bs), .int .u8 (p : Int)] w fun e w' => e = .returned (.bool true) ∧ Below w.heap.size w w' := by
  have HT := Lib.hid ht
  have HQ := Lib.hid hq
  have HE := Lib.hid he
  have HG := Lib.hid hG
  have HS := Lib.hid (BAt.start w bs 33)
  have HP1 := Lib.hid hp1
  have HP2 := Lib.hid hp2
  have HE2 := Lib.hid he2
  have HW := Lib.hid hwk
  clear ht hq he hG hp1 hp2 he2 hwk
  go_enter Tryd.func4, Tryd.ntmps4
  go_upto_block 0 with (first | (go_at_call 14; refine (HT.out _ ?_).mono ?_; (exact HG.out.keep HS.out.bel); rintro e w1 ⟨rfl, hb1⟩; replace HS := Lib.hid (HS.out.keep hb1); clear hb1) | (go_at_call 10; refine (HQ.out _).mono ?_; rintro e w1 ⟨rfl, hb1⟩; replace HS := Lib.hid (HS.out.keep hb1); clear hb1) | (go_at_call 12; refine (HE.out _).mono ?_; rintro e w1 ⟨rfl, hb1⟩; replace HS := Lib.hid (HS.out.keep hb1); clear hb1))
  rw [show ((p : Int) % 4 + 1) = (n : Int) by omega]
  have hn4 : n ≤ 4 := by omega
  have hn1 : 1 ≤ n := by omega
  clear hn
  go_cut [10] (fun v10 wx => v10 = .string (mkB (textB a n bs n)) ∧ Hid (BAt w wx bs))
  case first =>
    go_wp2_with (fail)
    go_loopw [10, 11] (fun v10 v11 wr => ∃ k : Nat, k ≤ n ∧ v11 = .int .i64 (k : Int) ∧ v10 = .string (mkB (textB a n bs k)) ∧ Hid (BAt w wr bs)) (fun _ v11 _ => n - (intOf v11).toNat)
    case atStart => exact ⟨0, Nat.zero_le _, rfl, rfl, HS⟩
    case round =>
      obtain ⟨k, hk, rfl, rfl, HS⟩ := hrel
      by_cases hlt : k < n
      · have hc := HS.out.at_ k (by omega)
        have hbk := hbs (bs.getD k 0) (by rw [List.getD_eq_getElem?_getD, List.getElem?_eq_getElem (by omega)]; exact List.getElem_mem _)
        have hP : pieceB a n bs k = wrL (valB a n k) ((bs.getD k 0).toNat % 3) := rfl
        have hsucc := textB_succ a n bs k
        have hV := valB_lt a n k ha
        have hl1 := textB_len a n bs ha k
        have hl2 := pieceB_len a n bs k ha
        generalize bs.getD k 0 = bb at hc hbk hP
        have hw : ∀ w, Calls Tryd.prog 16 #[.int .u64 ((valB a n k : Nat) : Int), .int .u8 (bb % 3)] w fun e w' => e = .returned (.string (mkB (pieceB a n bs k))) ∧ Below w.heap.size w w' := by
          intro w
          refine portcullislaw10_written.calls _ _ _ w ?_
          unfold portcullislaw10_written.f
          rw [if_pos ⟨by omega, by omega, by omega, by omega⟩, hP, show (bb % 3).toNat = bb.toNat % 3 by omega]
          rfl
        replace hw := Lib.hid hw
        have hz1 : (9223372036854775807 < (mkB (textB a n bs k)).size + 1) = False := eq_false (by rw [mkB_size]; omega)
        have hz3 : (9223372036854775807 < (mkB (textB a n bs k)).size + 1 + (mkB (pieceB a n bs k)).size) = False := eq_false (by rw [mkB_size, mkB_size]; omega)
        have hz4 : (9223372036854775807 < (mkB (textB a n bs k)).size + (mkB (pieceB a n bs k)).size) = False := eq_false (by rw [mkB_size, mkB_size]; omega)
        have hb0 := hbk.1
        have hb1 := hbk.2
        clear hP hbk hV hl1 hl2
        by_cases hl : k + 1 = n
        · have hv : bits .and .u64 (a : Int) (IntKind.u64.wrap (IntKind.u64.wrap (2 ^ (8 * (5 - n))) - 1)) = ((valB a n k : Nat) : Int) := by
            rw [mask_last a n ha hn1 hn4]; unfold valB; rw [if_pos hl]
          have HV := Lib.hid hv
          have h1 : ((k : Int) == (n : Int) - 1) = true := by rw [beq_iff_eq]; omega
          clear hv
          by_cases hz : k = 0
          · have hz' : decide (0 < k) = false := decide_eq_false (by omega)
            have hz2 : decide ((0 : Int) < (k : Int)) = false := decide_eq_false (by omega)
            have ht0 : textB a n bs k = [] := by rw [hz]; rfl
            rw [if_pos hz] at hsucc
            have HX := Lib.hid hsucc
            have HZ := Lib.hid ht0
            clear hsucc hz hl ht0
            go_wp2_with (go_at_call 16; rw [HV.out]; refine (hw.out _).mono ?_; rintro e w2 ⟨rfl, hb2⟩; replace HS := Lib.hid (HS.out.keep hb2); clear hb2)
            exact ⟨⟨k + 1, by omega, by go_num, by rw [HX.out, HZ.out, mkB_append]; rfl, HS⟩, by simp [intOf]; omega⟩
          · have hz' : decide (0 < k) = true := decide_eq_true (by omega)
            have hz2 : decide ((0 : Int) < (k : Int)) = true := decide_eq_true (by omega)
            rw [if_neg hz] at hsucc
            have HX := Lib.hid hsucc
            clear hsucc hz hl
            go_wp2_with (go_at_call 16; rw [HV.out]; refine (hw.out _).mono ?_; rintro e w2 ⟨rfl, hb2⟩; replace HS := Lib.hid (HS.out.keep hb2); clear hb2)
            exact ⟨⟨k + 1, by omega, by go_num, by rw [HX.out, show (⟨#[46]⟩ : ByteArray) = mkB [46] from rfl, mkB_append, mkB_append, List.append_assoc]; rfl, HS⟩, by simp [intOf]; omega⟩
        · have hv : bits .and .u64 (IntKind.u64.wrap ((a : Int) / 2 ^ (24 - 8 * k))) 255 = ((valB a n k : Nat) : Int) := by
            rw [mask_oct a k ha]; unfold valB; rw [if_neg hl]
          have HV := Lib.hid hv
          have h1 : ((k : Int) == (n : Int) - 1) = false := by rw [beq_eq_false_iff_ne]; omega
          clear hv
          by_cases hz : k = 0
          · have hz' : decide (0 < k) = false := decide_eq_false (by omega)
            have hz2 : decide ((0 : Int) < (k : Int)) = false := decide_eq_false (by omega)
            have ht0 : textB a n bs k = [] := by rw [hz]; rfl
            rw [if_pos hz] at hsucc
            have HX := Lib.hid hsucc
            have HZ := Lib.hid ht0
            clear hsucc hz hl ht0
            go_wp2_with (go_at_call 16; rw [HV.out]; refine (hw.out _).mono ?_; rintro e w2 ⟨rfl, hb2⟩; replace HS := Lib.hid (HS.out.keep hb2); clear hb2)
            exact ⟨⟨k + 1, by omega, by go_num, by rw [HX.out, HZ.out, mkB_append]; rfl, HS⟩, by simp [intOf]; omega⟩
          · have hz' : decide (0 < k) = true := decide_eq_true (by omega)
            have hz2 : decide ((0 : Int) < (k : Int)) = true := decide_eq_true (by omega)
            rw [if_neg hz] at hsucc
            have HX := Lib.hid hsucc
            clear hsucc hz hl
            go_wp2_with (go_at_call 16; rw [HV.out]; refine (hw.out _).mono ?_; rintro e w2 ⟨rfl, hb2⟩; replace HS := Lib.hid (HS.out.keep hb2); clear hb2)
            exact ⟨⟨k + 1, by omega, by go_num, by rw [HX.out, show (⟨#[46]⟩ : ByteArray) = mkB [46] from rfl, mkB_append, mkB_append, List.append_assoc]; rfl, HS⟩, by simp [intOf]; omega⟩
      · obtain rfl : k = n := by omega
        go_wp2_with fail
        go_meet
        exact ⟨rfl, HS⟩
  case rest =>
    obtain ⟨rfl, HS⟩ := hcut
    have hsz : (9223372036854775807 < (mkB (textB a n bs n)).size + 1) = False := eq_false (by have := textB_len a n bs ha n; rw [mkB_size]; omega)
    go_wp2_with fail
    refine (HP1.out _).mono ?_
    rintro e w2 ⟨rfl, hb2⟩
    replace HS := Lib.hid (HS.out.keep hb2)
    clear hb2
    go_wp2_with fail
    refine (HP2.out _).mono ?_
    rintro e w3 ⟨rfl, hb2⟩
    replace HS := Lib.hid (HS.out.keep hb2)
    clear hb2
    go_wp2_with (first | (go_at_call 12; refine (HE2.out _).mono ?_; rintro e w4 ⟨rfl, hb2⟩; replace HS := Lib.hid (HS.out.keep hb2); clear hb2) | (go_at_call 7; refine (HW.out _ (HG.out.keep HS.out.bel)).mono ?_; rintro e w5 ⟨rfl, hb2⟩; replace HS := Lib.hid (HS.out.keep hb2); clear hb2))
    go_ret
    exact ⟨rfl, HS.out.bel⟩
/-! ### What is written is read -/
theorem decDigits_digs : ∀ u : Nat, Lib.decDigits u = digs 10 u := by
  have h10 : ∀ u : Nat, u < 10 → UInt8.ofNat (48 + u) = hexc u := by decide +kernel
  intro u
  induction u using Nat.strongRecOn with
  | _ u ih =>
    rw [Lib.decDigits, digs]
    by_cases h : u < 10
    · rw [dif_pos h, dif_pos (.inl h), h10 u h]
    · rw [dif_neg h, dif_neg (by omega), ih (u / 10) (by omega), h10 _ (Nat.mod_lt _ (by decide))]
theorem textL_textB (a : Nat) (ha : a < 4294967296) : textL (a : Int) = textB a 4 [2, 2, 2, 2] 4 := by
  have ho : ∀ i : Nat, Lib.itoa (octet (a : Int) i) = digs 10 (a / 2 ^ (24 - 8 * i) % 256) := by
    intro i
    have e : octet (a : Int) i = ((a / 2 ^ (24 - 8 * i) % 256 : Nat) : Int) := by
      unfold octet
      rw [Int.natCast_emod, Int.natCast_ediv, Int.natCast_pow]; rfl
    rw [e, Lib.itoa_nonneg, decDigits_digs]
  rw [textL_eq, ho, ho, ho, ho]
  simp [textB, List.range_succ, joinD, pieceB, wrL, valB]
theorem wr_ends (v b : Nat) (hb : b ≤ 2) : endsF (mkB (wrL v b)) = true := by
  have hdig : ∀ B, 2 ≤ B → B ≤ 10 → (digs B v).all isDig = true := by
    intro B h1 h2
    rw [List.all_eq_true]
    intro c hc
    obtain ⟨d, hd, rfl⟩ := digs_mem B h1 (by omega) v c hc
    have h10 : ∀ u : Nat, u < 10 → isDig (hexc u) = true := by decide +kernel
    exact h10 d (by omega)
  have hne : ∀ B, digs B v ≠ [] := fun B => digs_ne B v
  unfold endsF
  rw [rdL_ten, ByteArray.toList_eq, data_mkB, numF_wr v b hb]
  rcases (by omega : b = 0 ∨ b = 1 ∨ b = 2) with rfl | rfl | rfl
  · have hp : preB (mkB (wrL v 0)) = true := by
      rw [preB_iff, mkB_size, data_mkB]
      exact ⟨by simp [wrL], rfl, .inl rfl⟩
    have h8 : ((numOf v).2 != 8) = true := by unfold numOf; split <;> rfl
    rw [hp, h8]
    simp
  · have : (wrL v 1).all isDig = true := by
      show ([48] ++ digs 8 v).all isDig = true
      rw [List.all_append, hdig 8 (by decide) (by decide)]
      decide
    rw [this]
    simp [wrL]
  · have : (wrL v 2).all isDig = true := hdig 10 (by decide) (by decide)
    rw [this]
    have : (wrL v 2).isEmpty = false := List.isEmpty_eq_false_iff.2 (hne 10)
    rw [this]
    simp
theorem vals_sum (a n : Nat) (ha : a < 4294967296) (h1 : 1 ≤ n) (h4 : n ≤ 4) : greatT n 0 ((List.range n).map (valB a n)) = false ∧ sumT n 0 ((List.range n).map (valB a n)) = a := by
  rcases (by omega : n = 1 ∨ n = 2 ∨ n = 3 ∨ n = 4) with rfl | rfl | rfl | rfl
  · simp [List.range_succ, valB, greatT, sumT]; omega
  · simp [List.range_succ, valB, greatT, sumT]; omega
  · simp [List.range_succ, valB, greatT, sumT]; omega
  · simp [List.range_succ, valB, greatT, sumT]; omega
theorem text_facts (a n : Nat) (ha : a < 4294967296) (h1 : 1 ≤ n) (h4 : n ≤ 4) (bs : List Int) :
    partsB (mkB (textB a n bs n)) = ((List.range n).map (pieceB a n bs)).map mkB ∧ partsB (mkB (textB a n bs n ++ [46])) = ((List.range n).map (pieceB a n bs)).map mkB := by
  refine parts_join _ ?_ ?_ ?_
  · intro e
    have := congrArg List.length e
    simp at this
    omega
  · intro p hp
    obtain ⟨i, _, rfl⟩ := List.mem_map.1 hp
    exact wrL_no _ _
  · intro p hp
    obtain ⟨i, _, rfl⟩ := List.mem_map.1 hp
    unfold pieceB wrL
    split
    · simp
    · split
      · simp
      · exact digs_ne _ _
theorem read_facts (a n : Nat) (ha : a < 4294967296) (h1 : 1 ≤ n) (h4 : n ≤ 4) (bs : List Int) :
    parseB (mkB (textB a n bs n)) = ((a : Int), 0) ∧ parseB (mkB (textB a n bs n ++ [46])) = ((a : Int), 0) ∧ endsF (lastB (partsB (mkB (textB a n bs n)))) = true := by
  obtain ⟨f1, f2⟩ := text_facts a n ha h1 h4 bs
  have hv : ((((List.range n).map (pieceB a n bs)).map mkB).map numF) = ((List.range n).map (valB a n)).map numOf := by
    rw [List.map_map, List.map_map, List.map_map]
    apply List.map_congr_left
    intro i _
    show numF (mkB (pieceB a n bs i)) = numOf (valB a n i)
    exact numF_wr _ _ (by have := Nat.mod_lt (bs.getD i 0).toNat (show 3 > 0 by decide); omega)
  have hs := vals_sum a n ha h1 h4
  have hp := parF_nums ((List.range n).map (valB a n)) (by simpa using h1) (by simpa using h4)
  rw [List.length_map, List.length_range, hs.1, if_neg Bool.false_ne_true, hs.2] at hp
  have hl : (((List.range n).map (pieceB a n bs)).map mkB).length = n := by simp
  refine ⟨?_, ?_, ?_⟩
  · unfold parseB
    rw [f1, if_neg (by omega), hv, hp]
  · unfold parseB
    rw [f2, if_neg (by omega), hv, hp]
  · have hne : (List.range n).map (pieceB a n bs) ≠ [] := by
      intro e
      have := congrArg List.length e
      simp at this
      omega
    rw [f1, last_get _ hne]
    have hm := List.getLast_mem hne
    obtain ⟨i, _, hi⟩ := List.mem_map.1 hm
    rw [← hi]
    exact wr_ends _ _ (by have := Nat.mod_lt (bs.getD i 0).toNat (show 3 > 0 by decide); omega)
theorem parse_call (l : List UInt8) (hl : l.length ≤ 1000) (x e : Int) (h : parseB (mkB l) = (x, e)) (w : World) : Calls Tryd.prog 10 #[.string (mkB l)] w fun e' w' => e' = .returned (.tuple #[.int .u32 x, .int .i64 e]) ∧ Below w.heap.size w w' := by
  have hs : (mkB l).size = l.length := mkB_size l
  have h2 := four_parse_eq (mkB l) (by omega) (fun y hy => by have := parts_mem _ y hy; omega) 0
  rw [h] at h2
  exact four_Parse.calls _ _ _ _ w h2
theorem ends_call (l : List UInt8) (hl : l.length ≤ 1000) (h : endsF (lastB (partsB (mkB l))) = true) (w : World) : Calls Tryd.prog 12 #[.string (mkB l)] w fun e' w' => e' = .returned (.bool true) ∧ Below w.heap.size w w' := by
  have hs : (mkB l).size = l.length := mkB_size l
  have h2 := four_ends_eq (mkB l) (by omega)
  rw [h] at h2
  exact four_Ends.calls _ _ w h2
theorem works_call (w : World) (hG : WG w) : Calls Tryd.prog 7 #[] w fun e' w' => e' = .returned (.bool true) ∧ Below w.heap.size w w' := portcullislaw10_works.calls _ true w (works_eq 0) hG
theorem portcullislaw10_FourBack.walk (_P : True) (a0 : Int) (a1 : List Int) (a2 : Int) (w : World) (w0 : (Lit.int .u32 a0).wf = true) (l1 : a1.length = 4) (w1 : ∀ x ∈ a1, (Lit.int .u8 x).wf = true) (w2 : (Lit.int .u8 a2).wf = true) (hG : WG w) :
    Calls Tryd.prog 4 #[.int .u32 a0, .agg (intVals .u8 a1), .int .u8 a2] w fun e w' => e = .returned (.bool true) ∧ Below w.heap.size w w' := by
  have u8 : ∀ a : Int, (Lit.int .u8 a).wf = true → 0 ≤ a ∧ a < 256 := by
    intro a h
    simp [Lit.wf, IntKind.min, IntKind.max, IntKind.signed, IntKind.bits] at h
    omega
  obtain ⟨h0, h1⟩ : 0 ≤ a0 ∧ a0 < 4294967296 := by
    simp [Lit.wf, IntKind.min, IntKind.max, IntKind.signed, IntKind.bits] at w0
    omega
  obtain ⟨h2, h3⟩ := u8 a2 w2
  obtain ⟨a, rfl⟩ := Int.eq_ofNat_of_zero_le h0
  obtain ⟨p, rfl⟩ := Int.eq_ofNat_of_zero_le h2
  have ha : a < 4294967296 := by omega
  have f := read_facts a (p % 4 + 1) ha (by omega) (by omega) a1
  have g := read_facts a 4 ha (by omega) (by omega) [2, 2, 2, 2]
  have l := textB_len a (p % 4 + 1) a1 ha (p % 4 + 1)
  have m := textB_len a 4 [2, 2, 2, 2] ha 4
  rw [← textL_textB a ha] at g m
  refine back_go a ha a1 l1 (fun x hx => u8 x (w1 x hx)) p (p % 4 + 1) rfl (by omega) w hG (fun w hG => ?_) (fun w => parse_call _ (by omega) _ _ g.1 w) (fun w => ends_call _ (by omega) g.2.2 w) (fun w => parse_call _ (by omega) _ _ f.1 w) (fun w => ?_) (fun w => ends_call _ (by omega) f.2.2 w) works_call
  · exact four_Text.calls _ _ _ w (four_text_eq 0 (a : Int) (by omega) (by omega)) hG
  · have e : mkB (textB a (p % 4 + 1) a1 (p % 4 + 1)) ++ ⟨#[46]⟩ = mkB (textB a (p % 4 + 1) a1 (p % 4 + 1) ++ [46]) := mkB_append _ [46]
    rw [e]
    exact parse_call _ (by simp; omega) _ _ f.2.1 w
end Go.Proofs.YtlnlfglhboccpaaDoor.Pr
