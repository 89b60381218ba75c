import Derived.Test.YtlnlfglhboccpaaDoorGprs
import Derived.Test.YtlnlfglhboccpaaDoorFtx
import Derived.Test.YtlnlfglhboccpaaDoorPrC1
import Derived.Laws.BitsLemmas
import Derived.Lib.ItoaMem
import Derived.Lib.ItoaLen
namespace Go.Proofs.YtlnlfglhboccpaaDoor.Pr
open Go.RowKit Go.Proofs.YtlnlfglhboccpaaDoorW.PrintWords Go.Proofs.YtlnlfglhboccpaaDoorW.PrintLast Go.Proofs.YtlnlfglhboccpaaDoorW.PrintMore
set_option linter.unusedVariables false
set_option linter.unusedSimpArgs false

/-! ### Does a text end in a number? -/
def isDig (c : UInt8) : Bool := decide (48 ≤ c.toNat) && decide (c.toNat ≤ 57)
theorem digV_ten_all : ((List.range 256).all fun n => decide (digV n.toUInt8 < 10) == isDig n.toUInt8) = true := by decide +kernel
theorem digV_ten (c : UInt8) : decide (digV c < 10) = isDig c := by
  have h := List.all_eq_true.1 digV_ten_all c.toNat (List.mem_range.2 (UInt8.toNat_lt c))
  have e : c.toNat.toUInt8 = c := by simp
  rw [e] at h
  exact beq_iff_eq.1 h
theorem rdL_ten : ∀ (l : List UInt8) (n : Int), (rdL 10 l n).2 = l.all isDig
  | [], _ => rfl
  | c :: l, n => by
    unfold rdL
    rw [List.all_cons, ← digV_ten c]
    by_cases h : 10 ≤ digV c
    · rw [if_pos h, decide_eq_false (by omega)]; rfl
    · rw [if_neg h, decide_eq_true (by omega), rdL_ten l]; rfl
theorem pcs_mem (c : UInt8) : ∀ (l p : List UInt8), p ∈ pcs c l → p.length ≤ l.length
  | [], p, h => by simp [pcs] at h; simp [h]
  | b :: l, p, h => by
    unfold pcs at h
    split at h
    · rcases List.mem_cons.1 h with rfl | h
      · simp
      · have := pcs_mem c l p h; simp; omega
    · rcases List.mem_cons.1 h with rfl | h
      · have : (pcs c l).headD [] ∈ pcs c l := by
          cases hp : pcs c l with
          | nil => exact absurd hp (pcs_ne c l)
          | cons x xs => simp
        have := pcs_mem c l _ this
        simp only [List.length_cons]; omega
      · have := pcs_mem c l p (List.mem_of_mem_tail h)
        simp; omega
theorem parts_mem (s : ByteArray) (x : ByteArray) (h : x ∈ partsB s) : x.size ≤ s.size := by
  have h2 : x ∈ (pcs 46 s.data.toList).map mkB := by
    unfold partsB finB at h
    split at h
    · exact List.mem_of_mem_take h
    · exact h
  obtain ⟨p, hp, rfl⟩ := List.mem_map.1 h2
  have := pcs_mem 46 _ p hp
  rw [data_length] at this
  rw [← data_length, data_mkB]
  exact this
theorem parts_pos (s : ByteArray) : 0 < (partsB s).length := by
  have h := List.length_pos_iff.2 (pcs_ne 46 s.data.toList)
  unfold partsB finB
  split
  · next h1 => simp at h1 ⊢; omega
  · simpa using h
theorem last_mem (s : ByteArray) : lastB (partsB s) ∈ partsB s := by
  have h := parts_pos s
  unfold lastB
  rw [List.getD_eq_getElem?_getD, List.getElem?_eq_getElem (by omega)]
  exact List.getElem_mem _
theorem parts_len (s : ByteArray) : (partsB s).length ≤ s.size + 1 := by
  have := pcsB_length s
  unfold partsB finB
  split
  · rw [List.length_take]; omega
  · exact this
theorem rd_last (L : List ByteArray) (h : 0 < L.length) : rdOf ByteArray.empty L ((L.length : Int) - 1) = lastB L := by
  unfold rdOf lastB
  rw [show ((L.length : Int) - 1).toNat = L.length - 1 by omega]
theorem four_ends_eq (s : ByteArray) (hs : s.size ≤ 2147483648) : four_Ends.f s = some (endsF (lastB (partsB s))) := by
  unfold four_Ends.f
  have hl := parts_mem s _ (last_mem s)
  rw [parts_eq s hs, Option.bind_some, rd_last _ (parts_pos s), if_pos ⟨parts_pos s, by omega⟩]
theorem refEnds_l0 (k : Nat) (s : ByteArray) (hs : s.size ≤ 2147483648) : ∀ (d i : Nat) (b : Bool), i + d = s.size →
    portcullisref10_Ends.l0 (k + s.size + 6 + d) s b (i : Int) = some ((b && (s.data.toList.drop i).all isDig) || (preB s && (numF s).2 != 8))
  | 0, i, b, h => by
    rw [show k + s.size + 6 + 0 = (k + s.size + 5) + 1 from rfl]
    unfold portcullisref10_Ends.l0
    rw [if_neg (by omega), List.drop_of_length_le (by rw [data_length]; omega), List.all_nil, Bool.and_true]
    cases b with
    | true => rw [if_pos rfl]; rfl
    | false =>
      rw [if_neg Bool.false_ne_true, refNumber_eq s (by omega) k, Option.bind_some, Bool.false_or]
      have hp := preB_iff s
      by_cases h2 : 2 ≤ s.size
      · have b0 : bt s 0 = ((s.data.toList.getD 0 0).toNat : Int) := by rw [getD_lt s 0 (by omega)]; exact bt_lt s 0 (by omega)
        have b1 : bt s 1 = ((s.data.toList.getD 1 0).toNat : Int) := by rw [getD_lt s 1 (by omega)]; exact bt_lt s 1 (by omega)
        rw [if_pos (by omega), if_pos (by omega)]
        by_cases c0 : s.data.toList.getD 0 0 = 48
        · have e0 : bt s 0 = 48 := by rw [b0, c0]; rfl
          rw [if_pos e0, if_pos (by omega)]
          by_cases c1 : s.data.toList.getD 1 0 = 120 ∨ s.data.toList.getD 1 0 = 88
          · have hx : preB s = true := hp.2 ⟨h2, c0, c1⟩
            rw [hx, Bool.true_and]
            by_cases e1 : bt s 1 = 120
            · rw [if_pos e1]
            · rw [if_neg e1]
              have e2 : bt s 1 = 88 := by
                rw [b1]
                rcases c1 with c1 | c1
                · exact absurd (by rw [b1, c1]; rfl) e1
                · rw [c1]; rfl
              rw [if_pos e2]
          · have hx : preB s = false := Bool.eq_false_iff.2 fun h => c1 (hp.1 h).2.2
            rw [hx, Bool.false_and]
            rw [if_neg (show ¬ bt s 1 = 120 from fun e => c1 (.inl ((byte_is _ 120 (by decide)).1 (by rw [← b1, e]; rfl))))]
            rw [if_neg (show ¬ bt s 1 = 88 from fun e => c1 (.inr ((byte_is _ 88 (by decide)).1 (by rw [← b1, e]; rfl))))]
        · have e0 : ¬ bt s 0 = 48 := fun e => c0 ((byte_is _ 48 (by decide)).1 (by rw [← b0, e]; rfl))
          have hx : preB s = false := Bool.eq_false_iff.2 fun h => c0 (hp.1 h).2.1
          rw [if_neg e0, hx, Bool.false_and]
      · have hx : preB s = false := Bool.eq_false_iff.2 fun h => h2 (hp.1 h).1
        rw [if_neg (by omega), hx, Bool.false_and]
  | d + 1, i, b, h => by
    have hi : i < s.size := by omega
    have hil : i < s.data.toList.length := by rw [data_length]; exact hi
    have hc : s.data.toList[i] = s[i] := rfl
    have ih := fun b => refEnds_l0 k s hs d (i + 1) b (by omega)
    simp only [Int.natCast_add, Int.natCast_one] at ih
    rw [show k + s.size + 6 + (d + 1) = (k + s.size + 6 + d) + 1 from rfl]
    unfold portcullisref10_Ends.l0
    rw [if_pos (by omega), wrap_small (by omega) (by omega), List.drop_eq_getElem_cons hil, hc, List.all_cons, bt_lt s i hi]
    cases b with
    | false => rw [if_neg Bool.false_ne_true, ih]; simp only [Bool.false_and]
    | true =>
      rw [if_pos rfl, if_pos (by omega), Bool.true_and]
      unfold isDig
      by_cases h48 : 48 ≤ s[i].toNat
      · rw [if_pos (by omega), ih, decide_eq_true h48, Bool.true_and]
        have e : decide ((s[i].toNat : Int) ≤ 57) = decide (s[i].toNat ≤ 57) := decide_eq_decide.2 (by omega)
        rw [e]; rfl
      · rw [if_neg (by omega), ih, decide_eq_false h48]
        simp only [Bool.false_and]
theorem ref_ends_eq (s : ByteArray) (hs : s.size ≤ 2147483648) (k : Nat) : portcullisref10_Ends.f (k + 20 + 2 * s.size) s = some (endsF (lastB (partsB s))) := by
  unfold portcullisref10_Ends.f
  have hp := refParts_eq s hs (k + 18 + s.size)
  rw [show k + 18 + s.size + 2 + s.size = k + 20 + 2 * s.size by omega] at hp
  have hl := parts_mem s _ (last_mem s)
  have hlen := parts_pos s
  have hlen2 := parts_len s
  rw [hp, Option.bind_some, wrap_small (by omega) (by omega), rd_last _ hlen, if_pos (by omega), if_pos (by omega)]
  generalize lastB (partsB s) = x at hl
  have h := refEnds_l0 (k + 14 + 2 * s.size - 2 * x.size) x (by omega) x.size 0 (x.toList != []) (by omega)
  rw [show k + 14 + 2 * s.size - 2 * x.size + x.size + 6 + x.size = k + 20 + 2 * s.size by omega] at h
  refine h.trans ?_
  unfold endsF
  rw [rdL_ten, List.drop_zero, ← nE_ne, Bool.and_comm (!_)]
/-! ### An address's text -/
theorem wraps_u32 (n : Int) (h₀ : 0 ≤ n) (h₁ : n < 2 ^ 32) : IntKind.u32.wrap n = n := by
  simp only [IntKind.wrap, IntKind.signed, IntKind.bits]
  simp
  omega
theorem and255 (x : Int) (h0 : 0 ≤ x) (h1 : x < 4294967296) : bits .and .u32 x 255 = x % 256 := bits_mask .u32 32 (by decide) wraps_u32 8 (by decide) x h0 h1
def octet (a : Int) (i : Nat) : Int := a / 2 ^ (24 - 8 * i) % 256
theorem octet_bd (a : Int) (i : Nat) : 0 ≤ octet a i ∧ octet a i ≤ 255 := by unfold octet; omega
theorem shr_bd (a : Int) (h0 : 0 ≤ a) (h1 : a < 4294967296) (n : Nat) : 0 ≤ a / 2 ^ n ∧ a / 2 ^ n < 4294967296 := by
  have hp : (0 : Int) < 2 ^ n := Int.pow_pos (by decide)
  exact ⟨Int.ediv_nonneg h0 (by omega), Int.lt_of_le_of_lt (Int.ediv_le_self _ h0) h1⟩
theorem octet_eq (a : Int) (h0 : 0 ≤ a) (h1 : a < 4294967296) (i : Nat) (hi : i < 4) : wrap64 (Go.bits .and .u32 (shr .u32 a (24 - 8 * (i : Int))) 255) = octet a i := by
  unfold shr
  rw [show (min (24 - 8 * (i : Int)).toNat IntKind.u32.bits) = 24 - 8 * i by simp only [IntKind.bits]; omega]
  have hb := shr_bd a h0 h1 (24 - 8 * i)
  rw [and255 _ hb.1 hb.2]
  have := octet_bd a i
  exact wrap_small (by unfold octet at this; omega) (by unfold octet at this; omega)
theorem itoa_some (x : Int) (h0 : 0 ≤ x) (h1 : x ≤ 255) : strconv_Itoa_22.f x = some (mkB (Lib.itoa x)) := by unfold strconv_Itoa_22.f; rw [if_pos ⟨h0, h1⟩]
theorem text_step (k : Nat) (a : Int) (h0 : 0 ≤ a) (h1 : a < 4294967296) (L : List ByteArray) (hL : L.length < 4) (i : Nat) (hi : i < 4) : four_Text.l0 (k + 1) a L (i : Int) = four_Text.l0 k a (L ++ [mkB (Lib.itoa (octet a i))]) ((i + 1 : Nat) : Int) := by
  conv => lhs; unfold four_Text.l0
  have hb := octet_bd a i
  rw [if_pos (by omega), wrap_small (a := 8 * (i : Int)) (by omega) (by omega), wrap_small (a := 24 - 8 * (i : Int)) (by omega) (by omega), if_pos (by omega), octet_eq a h0 h1 i hi, itoa_some _ hb.1 hb.2, Option.bind_some, if_pos (by omega), wrap_small (by omega) (by omega)]
  rfl
def textL (a : Int) : List UInt8 := Lib.join [Lib.itoa (octet a 0), Lib.itoa (octet a 1), Lib.itoa (octet a 2), Lib.itoa (octet a 3)] [46]
theorem itoa_len (x : Int) (h0 : 0 ≤ x) (h1 : x ≤ 255) : (Lib.itoa x).length ≤ 21 := Lib.itoa_length_le x (by omega) (by omega)
theorem textL_eq (a : Int) : textL a = Lib.itoa (octet a 0) ++ (46 :: (Lib.itoa (octet a 1) ++ (46 :: (Lib.itoa (octet a 2) ++ (46 :: Lib.itoa (octet a 3)))))) := by
  unfold textL
  simp [Lib.join, List.intercalate]
theorem textL_len (a : Int) : (textL a).length ≤ 87 := by
  have := itoa_len _ (octet_bd a 0).1 (octet_bd a 0).2
  have := itoa_len _ (octet_bd a 1).1 (octet_bd a 1).2
  have := itoa_len _ (octet_bd a 2).1 (octet_bd a 2).2
  have := itoa_len _ (octet_bd a 3).1 (octet_bd a 3).2
  rw [textL_eq]
  simp only [List.length_append, List.length_cons]
  omega
theorem four_text_eq (k : Nat) (a : Int) (h0 : 0 ≤ a) (h1 : a < 4294967296) : four_Text.f (k + 5) a = some (mkB (textL a)) := by
  unfold four_Text.f
  have e := text_step (k + 4) a h0 h1 [] (by decide) 0 (by decide)
  rw [show k + 5 = k + 4 + 1 from rfl]
  refine e.trans ?_
  rw [text_step (k + 3) a h0 h1 _ (by simp) 1 (by decide), text_step (k + 2) a h0 h1 _ (by simp) 2 (by decide), text_step (k + 1) a h0 h1 _ (by simp) 3 (by decide)]
  unfold four_Text.l0
  rw [if_neg (by decide)]
  unfold strings_Join.f
  have hl := textL_len a
  simp only [List.nil_append, List.cons_append, List.map_cons, List.map_nil, data_mkB, List.length_cons, List.length_nil]
  have hj : (Lib.join [Lib.itoa (octet a 0), Lib.itoa (octet a 1), Lib.itoa (octet a 2), Lib.itoa (octet a 3)] (⟨#[46]⟩ : ByteArray).data.toList) = textL a := rfl
  rw [hj, if_pos ⟨by decide, by omega⟩]
  rfl
theorem mkB_size (l : List UInt8) : (mkB l).size = l.length := by rw [← data_length, data_mkB]
theorem mkB_append (l m : List UInt8) : mkB l ++ mkB m = mkB (l ++ m) := by
  rw [← mkB_data (mkB l ++ mkB m)]
  congr 1
theorem ref_text_step (k : Nat) (a : Int) (h0 : 0 ≤ a) (h1 : a < 4294967296) (l : List UInt8) (hl : l.length ≤ 1000) (i : Nat) (hi : i < 3) : portcullisref10_Text.l0 (k + 1) a (mkB l) ((3 - i : Nat) : Int) = portcullisref10_Text.l0 k a (mkB (l ++ Lib.itoa (octet a i) ++ [46])) ((3 - (i + 1) : Nat) : Int) := by
  conv => lhs; unfold portcullisref10_Text.l0
  have hb := octet_bd a i
  have hz := itoa_len _ hb.1 hb.2
  have hs : IntKind.u64.wrap (wrap64 (8 * ((3 - i : Nat) : Int))) = 24 - 8 * (i : Int) := by rw [wrap_small (by omega) (by omega), uwrap_small (by omega) (by omega)]; omega
  rw [if_pos (by omega), hs, if_pos (by omega), octet_eq a h0 h1 i (by omega), itoa_some _ hb.1 hb.2, Option.bind_some, mkB_append, mkB_size, mkB_size, mkB_size, if_pos (by omega), if_pos (by omega), if_pos (by simp; omega), wrap_small (by omega) (by omega)]
  rw [show ((3 - i : Nat) : Int) - 1 = ((3 - (i + 1) : Nat) : Int) by omega]
  rw [show (⟨#[46]⟩ : ByteArray) = mkB [46] from rfl, mkB_append]
theorem ref_text_eq (k : Nat) (a : Int) (h0 : 0 ≤ a) (h1 : a < 4294967296) : portcullisref10_Text.f (k + 5) a = some (mkB (textL a)) := by
  unfold portcullisref10_Text.f
  have z0 := itoa_len _ (octet_bd a 0).1 (octet_bd a 0).2
  have z1 := itoa_len _ (octet_bd a 1).1 (octet_bd a 1).2
  have z2 := itoa_len _ (octet_bd a 2).1 (octet_bd a 2).2
  have z3 := itoa_len _ (octet_bd a 3).1 (octet_bd a 3).2
  have e := ref_text_step (k + 4) a h0 h1 [] (by decide) 0 (by decide)
  refine e.trans ?_
  rw [ref_text_step (k + 3) a h0 h1 _ (by simp; omega) 1 (by decide), ref_text_step (k + 2) a h0 h1 _ (by simp; omega) 2 (by decide)]
  unfold portcullisref10_Text.l0
  have hs : IntKind.u64.wrap (wrap64 (8 * ((3 - (2 + 1) : Nat) : Int))) = 24 - 8 * ((3 : Nat) : Int) := by rw [wrap_small (by omega) (by omega), uwrap_small (by omega) (by omega)]; rfl
  rw [if_pos (by omega), hs, if_pos (by omega), octet_eq a h0 h1 3 (by omega), itoa_some _ (octet_bd a 3).1 (octet_bd a 3).2, Option.bind_some, mkB_append, mkB_size, mkB_size, if_pos (by simp; omega), if_neg (by omega)]
  unfold portcullisref10_Text.l0
  rw [if_neg (by rw [wrap_small (by omega) (by omega)]; omega), textL_eq]
  simp
/-! ### Decimals -/
def dec3 (n : Nat) : List UInt8 := if n < 10 then [UInt8.ofNat (48 + n)] else if n < 100 then [UInt8.ofNat (48 + n / 10), UInt8.ofNat (48 + n % 10)] else [UInt8.ofNat (48 + n / 100), UInt8.ofNat (48 + n / 10 % 10), UInt8.ofNat (48 + n % 10)]
theorem itoa_dec (n : Nat) (h : n < 1000) : Lib.itoa (n : Int) = dec3 n := by
  rw [Lib.itoa_nonneg]
  unfold dec3
  split
  · next h1 => exact Lib.decDigits_one h1
  · next h1 =>
    split
    · next h2 => exact Lib.decDigits_two h1 h2
    · next h2 =>
      rw [Lib.decDigits, dif_neg h1, Lib.decDigits_two (by omega) (by omega)]
      rw [Nat.div_div_eq_div_mul]
      rfl
theorem itoa_oct (a : Int) (i : Nat) : Lib.itoa (octet a i) = dec3 (octet a i).toNat := by
  have hb := octet_bd a i
  have := itoa_dec (octet a i).toNat (by omega)
  rw [Int.toNat_of_nonneg hb.1] at this
  exact this
theorem works_eq (k : Nat) : portcullislaw10_works.f (k + 10) = some true := by
  unfold portcullislaw10_works.f
  have p1 := four_parse_eq ⟨#[48, 120, 55, 102, 46, 49]⟩ (by decide) (by decide +kernel) (k + 5)
  have p2 := four_parse_eq ⟨#[50, 53, 54, 46, 49]⟩ (by decide) (by decide +kernel) (k + 5)
  have p3 := four_parse_eq ⟨#[48, 56]⟩ (by decide) (by decide +kernel) (k + 5)
  have v1 : parseB ⟨#[48, 120, 55, 102, 46, 49]⟩ = (2130706433, 0) := by decide +kernel
  have v2 : parseB ⟨#[50, 53, 54, 46, 49]⟩ = (0, 4) := by decide +kernel
  have v3 : parseB ⟨#[48, 56]⟩ = (0, 8) := by decide +kernel
  rw [v1] at p1
  rw [v2] at p2
  rw [v3] at p3
  rw [p1, Option.bind_some, p2, Option.bind_some, p3, Option.bind_some, if_pos rfl, if_pos rfl, if_pos rfl, if_pos rfl]
  have t := four_text_eq (k + 5) 2130706433 (by decide) (by decide)
  have ht : textL 2130706433 = [49, 50, 55, 46, 48, 46, 48, 46, 49] := by
    rw [textL_eq, itoa_oct, itoa_oct, itoa_oct, itoa_oct]
    decide +kernel
  rw [ht] at t
  rw [t, Option.bind_some, if_pos (by rw [ByteArray.toList_eq]; rfl)]
  have e1 := four_ends_eq ⟨#[97, 46, 48, 120]⟩ (by decide)
  have e2 := four_ends_eq ⟨#[49, 46, 97]⟩ (by decide)
  have w1 : endsF (lastB (partsB ⟨#[97, 46, 48, 120]⟩)) = true := by unfold endsF; rw [ByteArray.toList_eq]; decide +kernel
  have w2 : endsF (lastB (partsB ⟨#[49, 46, 97]⟩)) = false := by unfold endsF; rw [ByteArray.toList_eq]; decide +kernel
  rw [w1] at e1
  rw [w2] at e2
  rw [e1, Option.bind_some, if_pos rfl, e2, Option.bind_some]
  rfl
end Go.Proofs.YtlnlfglhboccpaaDoor.Pr
