import Derived.Test.YtbgmepfejbbpaaaDoorMkb
import Derived.Test.YtbgmepfejbbpaaaDoorShelf
namespace Go.Proofs.YtbgmepfejbbpaaaDoor.Pr
open Go.RowKit Go.Proofs.YtbgmepfejbbpaaaDoorW.PrintWords Go.Proofs.YtbgmepfejbbpaaaDoorW.PrintLast Go.Proofs.YtbgmepfejbbpaaaDoorW.PrintMore
set_option linter.unusedVariables false
set_option linter.unusedSimpArgs false

/-! ### strings.Split at one byte -/
def pcs (c : UInt8) : List UInt8 → List (List UInt8)
  | [] => [[]]
  | b :: l => if b = c then [] :: pcs c l else (b :: (pcs c l).headD []) :: (pcs c l).tail
theorem pcs_ne (c : UInt8) : ∀ l, pcs c l ≠ []
  | [] => by simp [pcs]
  | b :: l => by unfold pcs; split <;> simp
theorem splitK_pcs (c : UInt8) : ∀ l, Lib.splitK [c] 0 (Lib.count l [c]) l = pcs c l
  | [] => by
    have h : Lib.count [] [c] = 0 := by rw [Lib.count_one]; rfl
    rw [h]; rfl
  | b :: l => by
    have ih := splitK_pcs c l
    by_cases hb : b = c
    · subst hb
      have h0 : Lib.index (b :: l) [b] = 0 := by unfold Lib.index; simp [List.isPrefixOf]
      rw [Lib.count_cons_eq, Nat.add_comm, Lib.splitK, h0]
      simp only [pcs, if_true]
      rw [if_neg (by decide)]
      simp only [Int.toNat_zero, Nat.zero_add, List.take_zero, List.length_singleton, List.drop_succ_cons, List.drop_zero]
      rw [ih]
    · rw [Lib.count_cons_ne b c l hb]
      simp only [pcs, if_neg hb]
      rw [← ih]
      cases hk : Lib.count l [c] with
      | zero => rfl
      | succ k =>
        have h1 : Lib.index (b :: l) [c] = if Lib.index l [c] == -1 then -1 else Lib.index l [c] + 1 := by
          conv => lhs; unfold Lib.index
          have : ([c].isPrefixOf (b :: l)) = false := by
            simp only [List.isPrefixOf, Bool.and_eq_false_imp]
            intro h; exact absurd (beq_iff_eq.1 h).symm hb
          rw [this]; rfl
        unfold Lib.splitK
        rw [h1]
        by_cases hm : Lib.index l [c] = -1
        · rw [hm]; rfl
        · have hge := Lib.index_ge l [c]
          obtain ⟨i, hi⟩ : ∃ i : Nat, Lib.index l [c] = i := ⟨(Lib.index l [c]).toNat, by omega⟩
          rw [hi]
          have e1 : ((i : Int) == -1) = false := by rw [beq_eq_false_iff_ne]; omega
          have e2 : ((i : Int) + 1 == -1) = false := by rw [beq_eq_false_iff_ne]; omega
          have e3 : ((i : Int) + 1).toNat = i + 1 := by omega
          simp [e1, e2, e3]
theorem splitB_pcs (c : UInt8) (s : ByteArray) : Lib.splitB ⟨#[c]⟩ 0 (Lib.countB s ⟨#[c]⟩) s = (pcs c s.data.toList).map mkB := by
  have h := Lib.splitB_data ⟨#[c]⟩ 0 (Lib.countB s ⟨#[c]⟩) s
  have h2 := splitK_pcs c s.data.toList
  have h3 : Lib.splitK (⟨#[c]⟩ : ByteArray).data.toList 0 (Lib.countB s ⟨#[c]⟩) s.data.toList = pcs c s.data.toList := h2
  rw [h3] at h
  rw [← h, List.map_map]
  conv => lhs; rw [← List.map_id (Lib.splitB ⟨#[c]⟩ 0 (Lib.countB s ⟨#[c]⟩) s)]
  exact List.map_congr_left fun x _ => (mkB_data x).symm
theorem count_call (s : ByteArray) (c : UInt8) (w : World) : Calls Tryd.prog 58 #[.string s, .string ⟨#[c]⟩] w fun e w' => e = .returned (.int .i64 (Lib.countB s ⟨#[c]⟩)) ∧ w' = w :=
  (Tryd.strings_Count_one s c w).mono fun e w' ⟨he, hw⟩ => ⟨by
    rw [he]
    show _ = Ending.returned (Value.int .i64 ((Lib.count s.data.toList [c] : Nat) : Int))
    rw [Lib.count_one]
    rfl, hw⟩
theorem index_call (s : ByteArray) (c : UInt8) (w : World) : Calls Tryd.prog 59 #[.string s, .string ⟨#[c]⟩] w fun e w' => e = .returned (.int .i64 (Lib.indexB s ⟨#[c]⟩)) ∧ w' = w :=
  (Tryd.strings_Index_one s c w).mono fun e w' ⟨he, hw⟩ => ⟨by
    rw [he]
    show _ = Ending.returned (Value.int .i64 (Lib.index s.data.toList [c]))
    rw [Lib.index_one], hw⟩
theorem split_any (s : ByteArray) (c : UInt8) (w : World) (hs : s.size < 4294967281) :
    Calls Tryd.prog 35 #[.string s, .string ⟨#[c]⟩] w fun e w' => e = .returned (.slice (some ⟨w.heap.size, 0, none⟩) (pcs c s.data.toList).length (pcs c s.data.toList).length) ∧ w' = w.alloc (.cells (((pcs c s.data.toList).map mkB).map Value.string).toArray 9) := by
  have hle := Lib.countB_le ⟨#[c]⟩ (Nat.le_refl 1) s.size s (Nat.le_refl _)
  have hlen := Lib.splitB_all ⟨#[c]⟩ (Nat.le_refl 1) 0 _ s rfl
  have c0 := Any.strings_genSplit_core Tryd.lays221 (by kernel_rfl) s ⟨#[c]⟩ 0 (-1) (Lib.countB s ⟨#[c]⟩ + 1) w hs (Nat.le_refl 1) (Nat.zero_le _) (fun x cc hx => index_call x c _) (count_call s c w) (by decide) (by decide) (by rw [if_pos (by decide)]; omega)
  rw [Nat.add_sub_cancel, hlen] at c0
  have e2 : Lib.cellsOf (Lib.splitB ⟨#[c]⟩ 0 (Lib.countB s ⟨#[c]⟩) s) (Lib.countB s ⟨#[c]⟩ + 1) = ((Lib.splitB ⟨#[c]⟩ 0 (Lib.countB s ⟨#[c]⟩) s).map Value.string).toArray := by rw [← hlen]; exact Lib.cellsOf_full _
  rw [e2, splitB_pcs] at c0
  have e3 : Lib.countB s ⟨#[c]⟩ + 1 = (pcs c s.data.toList).length := by rw [← hlen, splitB_pcs, List.length_map]
  rw [e3] at c0
  have C0 := Lib.hid c0
  clear c0 e2 e3 hlen hle
  go_enter Tryd.func35, Tryd.ntmps35
  go_wp2_with (go_at_call 48; refine C0.out.mono ?_; rintro e w' ⟨rfl, hw⟩; rw [hw])
  go_ret
  exact ⟨rfl, by rw [List.map_map]; rfl⟩
theorem pcs_length_le (c : UInt8) : ∀ l, (pcs c l).length ≤ l.length + 1
  | [] => by simp [pcs]
  | b :: l => by
    have := pcs_length_le c l
    unfold pcs
    split
    · simp; omega
    · simp; omega
def strings_Split.f (a0 : ByteArray) (a1 : ByteArray) : Option (List ByteArray) := if a1 = ⟨#[46]⟩ ∧ a0.size ≤ 2147483648 then some ((pcs 46 a0.data.toList).map mkB) else none
theorem strings_Split.calls (a0 : ByteArray) (a1 : ByteArray) (r : List ByteArray) (w : World) (h : strings_Split.f a0 a1 = some r) :
    Calls Tryd.prog 35 #[.string a0, .string a1] w fun e w' => ∃ v0_ : Value, e = .returned (v0_) ∧ Kd.R Kd.string 9 w' w.heap.size (fun _ => True) v0_ r ∧ Below w.heap.size w w' := by
  unfold strings_Split.f at h
  split at h
  · next hc =>
    obtain ⟨rfl, hs⟩ := hc
    obtain rfl := Option.some.inj h
    refine (split_any a0 46 w (by omega)).mono ?_
    rintro e w' ⟨rfl, rfl⟩
    have hl := pcs_length_le 46 a0.data.toList
    rw [data_length] at hl
    refine ⟨_, rfl, Kd.R_of_own ⟨by simp [encs], .inr ⟨w.heap.size, (pcs 46 a0.data.toList).length, (((pcs 46 a0.data.toList).map mkB).map Value.string).toArray, by simp, Nat.le_refl _, ?_, by simp, by simp [maxLen]; omega, by simp, ?_⟩⟩ (fun _ _ => trivial), below_alloc (Below.refl _ _) _⟩
    · show (w.heap.push _)[w.heap.size]? = _
      simp
    · simp [encs]; exact List.take_of_length_le (by simp)
  · cases h
end Go.Proofs.YtbgmepfejbbpaaaDoor.Pr
