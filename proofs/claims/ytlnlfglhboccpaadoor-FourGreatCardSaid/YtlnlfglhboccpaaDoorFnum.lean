import Derived.Test.YtlnlfglhboccpaaDoorFrd
namespace Go.Proofs.YtlnlfglhboccpaaDoor.Pr
open Go.RowKit Go.Proofs.YtlnlfglhboccpaaDoorW.PrintWords Go.Proofs.YtlnlfglhboccpaaDoorW.PrintLast Go.Proofs.YtlnlfglhboccpaaDoorW.PrintMore
set_option linter.unusedVariables false
set_option linter.unusedSimpArgs false
theorem reader_any (b : Int) (w : World) : Calls Tryd.prog 17 #[.int .u64 b] w fun e w' => e = .returned (.func (.func 24) #[] #[.pointer (some ⟨w.heap.size, 0, none⟩)]) ∧ w' = w.alloc (.cells #[.int .u64 b] 24) := by
  go_enter Tryd.func17, Tryd.ntmps17
  go_wp2
  go_ret
  exact ⟨rfl, rfl⟩
def preB (s : ByteArray) : Bool := Lib.hasPrefix s.data.toList [48, 120] || Lib.hasPrefix s.data.toList [48, 88]
theorem preB_any (s : ByteArray) (w : World) : Calls Tryd.prog 18 #[.string s] w fun e w' => e = .returned (.bool (preB s)) ∧ w = w' := by
  have h1 : ∀ w, Calls Tryd.prog 26 #[.string s, .string ⟨#[48, 120]⟩] w fun e w' => e = .returned (.bool (Lib.hasPrefix s.data.toList [48, 120])) ∧ w = w' := fun w => (Tryd.strings_HasPrefix s ⟨#[48, 120]⟩ w).mono fun e w' ⟨a, b⟩ => ⟨a, b.symm⟩
  have h2 : ∀ w, Calls Tryd.prog 26 #[.string s, .string ⟨#[48, 88]⟩] w fun e w' => e = .returned (.bool (Lib.hasPrefix s.data.toList [48, 88])) ∧ w = w' := fun w => (Tryd.strings_HasPrefix s ⟨#[48, 88]⟩ w).mono fun e w' ⟨a, b⟩ => ⟨a, b.symm⟩
  unfold preB
  generalize Lib.hasPrefix s.data.toList [48, 120] = b1 at h1 ⊢
  generalize Lib.hasPrefix s.data.toList [48, 88] = b2 at h2 ⊢
  have H1 := Lib.hid h1
  have H2 := Lib.hid h2
  clear h1 h2
  cases b1
  · go_enter Tryd.func18, Tryd.ntmps18
    go_wp2_with fail
    refine (H1.out _).mono ?_
    rintro e w' ⟨rfl, rfl⟩
    go_wp2_with fail
    refine (H2.out _).mono ?_
    rintro e w' ⟨rfl, rfl⟩
    go_wp2_with fail
    go_ret
    exact ⟨by simp, rfl⟩
  · go_enter Tryd.func18, Tryd.ntmps18
    go_wp2_with fail
    refine (H1.out _).mono ?_
    rintro e w' ⟨rfl, rfl⟩
    go_wp2_with fail
    go_ret
    exact ⟨by simp, rfl⟩
theorem preB_size {s : ByteArray} (h : preB s = true) : 2 ≤ s.size := by
  unfold preB Lib.hasPrefix at h
  rw [← data_length]
  simp only [Bool.or_eq_true, List.isPrefixOf_iff_prefix] at h
  rcases h with h | h <;> exact h.length_le
def numF (s : ByteArray) : Int × Int :=
  if s.size = 0 then (0, 8)
  else
    let r := if preB s then rdL 16 (s.data.toList.drop 2) 0 else if 1 < s.size ∧ s.data.toList.getD 0 0 = 48 then rdL 8 (s.data.toList.drop 1) 0 else rdL 10 s.data.toList 0
    if r.2 then (if 4294967296 ≤ r.1 then (0, 4) else (r.1, 0)) else (0, 8)
theorem tup3 {a b c d : Int} (h : (a, c) = (b, d)) : Ending.returned (.tuple #[.int .u64 a, .int .i64 c]) = .returned (.tuple #[.int .u64 b, .int .i64 d]) := by
  obtain ⟨rfl, rfl⟩ := Prod.mk.inj h; rfl
theorem ext_data (s : ByteArray) (k : Nat) : (s.extract k s.size).data.toList = s.data.toList.drop k := by
  simp [ByteArray.data_extract, ← ByteArray.size_data]
  exact List.take_of_length_le (by rw [List.length_drop, Array.length_toList]; exact Nat.le_refl _)
theorem below_two (w : World) (x y : Obj) : Below w.heap.size w ((w.alloc x).alloc y).drew := below_drew1 (below_alloc (below_alloc (Below.refl _ _) _) _)
theorem isEmpty_of (s : ByteArray) : s.toList.isEmpty = decide (s.size = 0) := by
  rw [ByteArray.toList_eq, Bool.eq_iff_iff, List.isEmpty_iff, decide_eq_true_iff, ← List.length_eq_zero_iff, data_length]
theorem byte0 (s : ByteArray) (h : 0 < s.size) : s.data.toList.getD 0 0 = s[0] := by
  simp [List.getD, List.getElem?_eq_getElem (show 0 < s.data.toList.length by simpa using h)]; rfl
set_option maxHeartbeats 2000000 in
theorem number_any (s : ByteArray) (w : World) (hs : s.size ≤ 140737488351232) :
    Calls Tryd.prog 8 #[.string s] w fun e w' => e = .returned (.tuple #[.int .u64 (numF s).1, .int .i64 (numF s).2]) ∧ Below w.heap.size w w' := by
  by_cases h0 : s.size = 0
  · have he : s.toList.isEmpty = true := by rw [isEmpty_of, h0]; rfl
    have HF : numF s = (0, 8) := by unfold numF; rw [if_pos h0]
    have HF := Lib.hid HF
    clear h0
    go_enter Tryd.func8, Tryd.ntmps8
    go_wp2_with (first | (go_at_call 17; refine (reader_any _ _).mono ?_; rintro e w' ⟨rfl, rfl⟩) | (go_at_call 18; refine (preB_any _ _).mono ?_; rintro e w' ⟨rfl, rfl⟩))
    go_ret2
    exact ⟨tup3 HF.out.symm, below_alloc (Below.refl _ _) _⟩
  · have he : s.toList.isEmpty = false := by rw [isEmpty_of]; exact decide_eq_false h0
    by_cases hp : preB s = true
    · have h2 : 2 ≤ s.size := preB_size hp
      go_enter Tryd.func8, Tryd.ntmps8
      go_upto_block 0 with (first | (go_at_call 17; refine (reader_any _ _).mono ?_; rintro e w' ⟨rfl, rfl⟩) | (go_at_call 18; refine (preB_any _ _).mono ?_; rintro e w' ⟨rfl, rfl⟩))
      go_cut [4, 5] (fun v4 v5 wx => ∃ p : Addr, v4 = .func (.func 24) #[] #[.pointer (some p)] ∧ v5 = .string (s.extract 2 s.size) ∧ wx.cell? p = some (.int .u64 16) ∧ p.block < wx.heap.size ∧ Hid (Below w.heap.size w wx))
      case first =>
        go_wp2_with (first | (go_at_call 17; refine (reader_any _ _).mono ?_; rintro e w' ⟨rfl, rfl⟩) | (go_at_call 18; refine (preB_any _ _).mono ?_; rintro e w' ⟨rfl, rfl⟩))
        go_region_with (go_at_call 17; refine (reader_any _ _).mono ?_; rintro e w' ⟨rfl, rfl⟩)
        all_goals (go_wp2_with fail; go_meet; exact ⟨⟨w.heap.size + 1, 0, none⟩, rfl, rfl, by simp [World.cell?_alloc_new], by simp, Lib.hid (below_two _ _ _)⟩)
      case rest =>
        obtain ⟨p, rfl, rfl, hc1, hp1, HB⟩ := hcut
        obtain ⟨n, hn⟩ : ∃ n, (rdL 16 (s.data.toList.drop 2) 0).1 = n := ⟨_, rfl⟩
        obtain ⟨b, hb⟩ : ∃ b, (rdL 16 (s.data.toList.drop 2) 0).2 = b := ⟨_, rfl⟩
        have HN := fun (w : World) p hp hc => (reader1_any 16 (by decide) (by decide) (s.extract 2 s.size) p w hp hc (by (try simp only [ByteArray.size_extract]); omega))
        rw [ext_data, hn, hb] at HN
        have HF : numF s = if b then (if 4294967296 ≤ n then (0, 4) else (n, 0)) else (0, 8) := by
          unfold numF; rw [if_neg h0]; simp only [hp, if_true]; rw [hn, hb]
        have HF1 := Lib.hid (show b = false → numF s = (0, 8) from fun e => by rw [HF, e]; rfl)
        have HF2 := Lib.hid (show b = true → 4294967296 ≤ n → numF s = (0, 4) from fun e g => by rw [HF, e, if_pos rfl, if_pos g])
        have HF3 := Lib.hid (show b = true → ¬ 4294967296 ≤ n → numF s = (n, 0) from fun e g => by rw [HF, e, if_pos rfl, if_neg g])
        replace HN := Lib.hid HN
        clear hn hb HF
        clear h0 he
        cases b with
        | false =>
          replace HF1 := Lib.hid (HF1.out rfl)
          go_wp2_with (go_at_call 24; refine (HN.out _ _ hp1 hc1).mono ?_; rintro e w' ⟨rfl, hb2⟩)
          go_ret2
          exact ⟨tup3 HF1.out.symm, below_step HB.out hb2⟩
        | true =>
          by_cases hg : 4294967296 ≤ n
          · have hg' : decide (4294967296 ≤ n) = true := decide_eq_true hg
            replace HF2 := Lib.hid (HF2.out rfl hg)
            clear hg
            go_wp2_with (go_at_call 24; refine (HN.out _ _ hp1 hc1).mono ?_; rintro e w' ⟨rfl, hb2⟩)
            go_ret2
            exact ⟨tup3 HF2.out.symm, below_step HB.out hb2⟩
          · have hg' : decide (4294967296 ≤ n) = false := decide_eq_false hg
            replace HF3 := Lib.hid (HF3.out rfl hg)
            clear hg
            go_wp2_with (go_at_call 24; refine (HN.out _ _ hp1 hc1).mono ?_; rintro e w' ⟨rfl, hb2⟩)
            go_ret2
            exact ⟨tup3 HF3.out.symm, below_step HB.out hb2⟩
    · have hp' : preB s = false := by simpa using hp
      by_cases h8 : 1 < s.size ∧ s.data.toList.getD 0 0 = 48
      · obtain ⟨h8a, h8b⟩ := h8
        have HI := Lib.hid (And.intro h8a h8b)
        rw [byte0 s (by omega)] at h8b
        have hc0 : (((s[0]'(by omega)).toNat : Int) == 48) = true := by rw [h8b]; rfl
        have h8d : decide ((1 : Int) < (s.size : Int)) = true := by simp; omega
        clear h8b hp
        go_enter Tryd.func8, Tryd.ntmps8
        go_upto_block 0 with (first | (go_at_call 17; refine (reader_any _ _).mono ?_; rintro e w' ⟨rfl, rfl⟩) | (go_at_call 18; refine (preB_any _ _).mono ?_; rintro e w' ⟨rfl, rfl⟩))
        go_cut [4, 5] (fun v4 v5 wx => ∃ p : Addr, v4 = .func (.func 24) #[] #[.pointer (some p)] ∧ v5 = .string (s.extract 1 s.size) ∧ wx.cell? p = some (.int .u64 8) ∧ p.block < wx.heap.size ∧ Hid (Below w.heap.size w wx))
        case first =>
          go_wp2_with (first | (go_at_call 17; refine (reader_any _ _).mono ?_; rintro e w' ⟨rfl, rfl⟩) | (go_at_call 18; refine (preB_any _ _).mono ?_; rintro e w' ⟨rfl, rfl⟩))
          go_region_with (go_at_call 17; refine (reader_any _ _).mono ?_; rintro e w' ⟨rfl, rfl⟩)
          all_goals (go_wp2_with fail; go_meet; exact ⟨⟨w.heap.size + 1, 0, none⟩, rfl, rfl, by simp [World.cell?_alloc_new], by simp, Lib.hid (below_two _ _ _)⟩)
        case rest =>
          obtain ⟨p, rfl, rfl, hc1, hp1, HB⟩ := hcut
          obtain ⟨n, hn⟩ : ∃ n, (rdL 8 (s.data.toList.drop 1) 0).1 = n := ⟨_, rfl⟩
          obtain ⟨b, hb⟩ : ∃ b, (rdL 8 (s.data.toList.drop 1) 0).2 = b := ⟨_, rfl⟩
          have HN := fun (w : World) p hp hc => (reader1_any 8 (by decide) (by decide) (s.extract 1 s.size) p w hp hc (by (try simp only [ByteArray.size_extract]); omega))
          rw [ext_data, hn, hb] at HN
          have HF : numF s = if b then (if 4294967296 ≤ n then (0, 4) else (n, 0)) else (0, 8) := by
            unfold numF; rw [if_neg h0]; simp only [hp', if_pos HI.out, Bool.false_eq_true, if_false]; rw [hn, hb]
          have HF1 := Lib.hid (show b = false → numF s = (0, 8) from fun e => by rw [HF, e]; rfl)
          have HF2 := Lib.hid (show b = true → 4294967296 ≤ n → numF s = (0, 4) from fun e g => by rw [HF, e, if_pos rfl, if_pos g])
          have HF3 := Lib.hid (show b = true → ¬ 4294967296 ≤ n → numF s = (n, 0) from fun e g => by rw [HF, e, if_pos rfl, if_neg g])
          replace HN := Lib.hid HN
          clear hn hb HF
          clear h0 he
          cases b with
          | false =>
            replace HF1 := Lib.hid (HF1.out rfl)
            go_wp2_with (go_at_call 24; refine (HN.out _ _ hp1 hc1).mono ?_; rintro e w' ⟨rfl, hb2⟩)
            go_ret2
            exact ⟨tup3 HF1.out.symm, below_step HB.out hb2⟩
          | true =>
            by_cases hg : 4294967296 ≤ n
            · have hg' : decide (4294967296 ≤ n) = true := decide_eq_true hg
              replace HF2 := Lib.hid (HF2.out rfl hg)
              clear hg
              go_wp2_with (go_at_call 24; refine (HN.out _ _ hp1 hc1).mono ?_; rintro e w' ⟨rfl, hb2⟩)
              go_ret2
              exact ⟨tup3 HF2.out.symm, below_step HB.out hb2⟩
            · have hg' : decide (4294967296 ≤ n) = false := decide_eq_false hg
              replace HF3 := Lib.hid (HF3.out rfl hg)
              clear hg
              go_wp2_with (go_at_call 24; refine (HN.out _ _ hp1 hc1).mono ?_; rintro e w' ⟨rfl, hb2⟩)
              go_ret2
              exact ⟨tup3 HF3.out.symm, below_step HB.out hb2⟩
      · have hz : (decide ((1 : Int) < (s.size : Int)) = false) ∨ (decide ((1 : Int) < (s.size : Int)) = true ∧ (((s[0]'(by omega)).toNat : Int) == 48) = false) := by
          rcases Nat.lt_or_ge 1 s.size with h1 | h1
          · refine .inr ⟨by simp; omega, ?_⟩
            rw [byte0 s (by omega)] at h8
            have h9 : ¬ s[0] = 48 := fun e => h8 ⟨h1, e⟩
            rw [beq_eq_false_iff_ne]
            intro e
            exact h9 (UInt8.toNat.inj (by show _ = 48; omega))
          · exact .inl (by simp; omega)
        go_enter Tryd.func8, Tryd.ntmps8
        go_upto_block 0 with (first | (go_at_call 17; refine (reader_any _ _).mono ?_; rintro e w' ⟨rfl, rfl⟩) | (go_at_call 18; refine (preB_any _ _).mono ?_; rintro e w' ⟨rfl, rfl⟩))
        go_cut [4, 5] (fun v4 v5 wx => ∃ p : Addr, v4 = .func (.func 24) #[] #[.pointer (some p)] ∧ v5 = .string s ∧ wx.cell? p = some (.int .u64 10) ∧ p.block < wx.heap.size ∧ Hid (Below w.heap.size w wx))
        case first =>
          rcases hz with hz | ⟨hz1, hz2⟩
          all_goals
            go_wp2_with (first | (go_at_call 17; refine (reader_any _ _).mono ?_; rintro e w' ⟨rfl, rfl⟩) | (go_at_call 18; refine (preB_any _ _).mono ?_; rintro e w' ⟨rfl, rfl⟩))
            go_meet
            exact ⟨⟨w.heap.size, 0, none⟩, rfl, rfl, by simp [World.cell?_alloc_new], by simp, Lib.hid (below_alloc (Below.refl _ _) _)⟩
        case rest =>
          obtain ⟨p, rfl, rfl, hc1, hp1, HB⟩ := hcut
          obtain ⟨n, hn⟩ : ∃ n, (rdL 10 (s.data.toList) 0).1 = n := ⟨_, rfl⟩
          obtain ⟨b, hb⟩ : ∃ b, (rdL 10 (s.data.toList) 0).2 = b := ⟨_, rfl⟩
          have HN := fun (w : World) p hp hc => (reader1_any 10 (by decide) (by decide) s p w hp hc (by (try simp only [ByteArray.size_extract]); omega))
          rw [hn, hb] at HN
          have HF : numF s = if b then (if 4294967296 ≤ n then (0, 4) else (n, 0)) else (0, 8) := by
            unfold numF; rw [if_neg h0]; simp only [hp', if_neg h8, Bool.false_eq_true, if_false]; rw [hn, hb]
          have HF1 := Lib.hid (show b = false → numF s = (0, 8) from fun e => by rw [HF, e]; rfl)
          have HF2 := Lib.hid (show b = true → 4294967296 ≤ n → numF s = (0, 4) from fun e g => by rw [HF, e, if_pos rfl, if_pos g])
          have HF3 := Lib.hid (show b = true → ¬ 4294967296 ≤ n → numF s = (n, 0) from fun e g => by rw [HF, e, if_pos rfl, if_neg g])
          replace HN := Lib.hid HN
          clear hn hb HF
          clear hz h0 he
          cases b with
          | false =>
            replace HF1 := Lib.hid (HF1.out rfl)
            go_wp2_with (go_at_call 24; refine (HN.out _ _ hp1 hc1).mono ?_; rintro e w' ⟨rfl, hb2⟩)
            go_ret2
            exact ⟨tup3 HF1.out.symm, below_step HB.out hb2⟩
          | true =>
            by_cases hg : 4294967296 ≤ n
            · have hg' : decide (4294967296 ≤ n) = true := decide_eq_true hg
              replace HF2 := Lib.hid (HF2.out rfl hg)
              clear hg
              go_wp2_with (go_at_call 24; refine (HN.out _ _ hp1 hc1).mono ?_; rintro e w' ⟨rfl, hb2⟩)
              go_ret2
              exact ⟨tup3 HF2.out.symm, below_step HB.out hb2⟩
            · have hg' : decide (4294967296 ≤ n) = false := decide_eq_false hg
              replace HF3 := Lib.hid (HF3.out rfl hg)
              clear hg
              go_wp2_with (go_at_call 24; refine (HN.out _ _ hp1 hc1).mono ?_; rintro e w' ⟨rfl, hb2⟩)
              go_ret2
              exact ⟨tup3 HF3.out.symm, below_step HB.out hb2⟩
end Go.Proofs.YtlnlfglhboccpaaDoor.Pr
