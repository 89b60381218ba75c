import Derived.Test.YtbeffjdplelojaaAtab
import Derived.Lib.LazyBuf
import Derived.Lib.SlBuf
namespace Go.Proofs.Ytbeffjdplelojaa.Pr
open Go.RowKit Go.Proofs.YtbeffjdplelojaaW.PrintWords Go.Proofs.YtbeffjdplelojaaW.PrintLast Go.Proofs.YtbeffjdplelojaaW.PrintMore
set_option linter.unusedVariables false
set_option linter.unusedSimpArgs false

/-! ### More, in one piece -/
def crcGo (l : List Int) (r : Int) : Int := l.foldl (fun r c => st8 (Go.bits .xor .u32 r (c % 4294967296))) r
def moreF (a : Int) (s : ByteArray) : Int := Go.bits .xor .u32 IntKind.u32.max (crcGo (bytesOf s) (Go.bits .xor .u32 IntKind.u32.max a))
theorem bytesOf_drop (s : ByteArray) (i : Nat) (h : i < s.size) : (bytesOf s).drop i = bt s i :: (bytesOf s).drop (i + 1) := by
  have hl : i < (bytesOf s).length := by rw [bytesOf_length]; exact h
  rw [List.drop_eq_getElem_cons hl]
  congr 1
  have := rd_bytesOf s i
  unfold rd at this
  rw [← this]
  simp [List.getD_eq_getElem?_getD, List.getElem?_eq_getElem hl]
theorem more_loop (s : ByteArray) (hs : s.size ≤ 4611686018427387904) (d : Nat) : ∀ (k i : Nat) (r : Int), i + d = s.size → d + 10 ≤ k →
    crc_More.l0 k s r (s.size : Int) (i : Int) = some (Go.bits .xor .u32 IntKind.u32.max (crcGo ((bytesOf s).drop i) r)) := by
  induction d with
  | zero =>
    intro k i r hi hk
    obtain ⟨k, rfl⟩ : ∃ m, k = m + 1 := ⟨k - 1, by omega⟩
    simp only [crc_More.l0]
    rw [if_neg (by omega), List.drop_of_length_le (by rw [bytesOf_length]; omega)]
    rfl
  | succ d ih =>
    intro k i r hi hk
    obtain ⟨k, rfl⟩ : ∃ m, k = m + 1 := ⟨k - 1, by omega⟩
    simp only [crc_More.l0]
    rw [if_pos (by omega), if_pos (by omega), if_pos (by omega), steps_more k _ (by omega)]
    simp only [Option.bind_some]
    have e : wrap64 ((i : Int) + 1) = ((i + 1 : Nat) : Int) := by unfold wrap64; omega
    rw [e, ih k (i + 1) _ (by omega) (by omega), bytesOf_drop s i (by omega)]
    rfl
theorem more_is (a : Int) (s : ByteArray) (hs : s.size ≤ 4611686018427387904) (k : Nat) (hk : s.size + 10 ≤ k) : crc_More.f k a s = some (moreF a s) := by
  unfold crc_More.f
  exact more_loop s hs s.size k 0 _ (by omega) (by omega)
theorem of_is (s : ByteArray) (hs : s.size ≤ 4611686018427387904) (k : Nat) (hk : s.size + 10 ≤ k) : crc_Of.f k s = some (moreF 0 s) := by
  unfold crc_Of.f
  rw [more_is 0 s hs k hk]
  rfl

/-! ### put -/
def fourN (x : Int) : List Int := [x % 256, x / 256 % 256, x / 65536 % 256, x / 16777216 % 256]
set_option maxHeartbeats 1000000 in
theorem put_at (g o n cap : Nat) (x : Int) (w : World) (h4 : 4 ≤ n) (ho : w.there g o 4) :
    Calls Try.prog 23 #[.slice (some ⟨g, o, none⟩) n cap, .int .u32 x] w fun e w' => e = .returned (.tuple #[]) ∧ w' = w.setCells g o (nums .u8 (fourN x)) := by
  obtain ⟨x0, c0⟩ := Option.isSome_iff_exists.1 (ho 0 (by omega)).1
  obtain ⟨x1, c1⟩ := Option.isSome_iff_exists.1 (ho 1 (by omega)).1
  obtain ⟨x2, c2⟩ := Option.isSome_iff_exists.1 (ho 2 (by omega)).1
  obtain ⟨x3, c3⟩ := Option.isSome_iff_exists.1 (ho 3 (by omega)).1
  have f0 := (ho 0 (by omega)).2
  have f1 := (ho 1 (by omega)).2
  have f2 := (ho 2 (by omega)).2
  have f3 := (ho 3 (by omega)).2
  simp only [Nat.zero_add, Nat.add_zero] at c0 f0 c1 f1 c2 f2 c3 f3
  clear ho
  have b0 : (0 : Int) < n := by omega
  have b1 : (1 : Int) < n := by omega
  have b2 : (2 : Int) < n := by omega
  have b3 : (3 : Int) < n := by omega
  go_enter Try.func23, Try.ntmps23
  go_wp2_with fail
  refine wp_loop_rounds 5 ?_
  rw [rounds_succ]
  go_wp2_with fail
  rw [rounds_succ]
  go_wp2_with fail
  rw [rounds_succ]
  go_wp2_with fail
  rw [rounds_succ]
  go_wp2_with fail
  rw [rounds_succ]
  go_wp2_with fail
  go_end0
  exact ⟨rfl, rfl⟩

/-! ### Frame -/
theorem there_owned {w : World} {base g n cap : Nat} {e : TypeId} {xs : List Value} (h : w.ownsRow base e 1 (.slice (some ⟨g, 0, none⟩) n cap) n xs) : w.there g 0 n := fun j hj => by
  rcases h.2 with ⟨h0, _⟩ | ⟨g', cap', cur, h0, _, hg, hle, _, hs, _⟩
  · simp at h0
  · simp only [Value.slice.injEq, Option.some.injEq, Addr.mk.injEq] at h0
    obtain ⟨⟨rfl, _⟩, _, rfl⟩ := h0
    rw [cell_of_row _ _ _ _ _ _ hg, frozen_of_row _ _ _ _ _ hg]
    simp only [and_true]
    rw [Array.getElem?_eq_getElem (by omega)]
    rfl
theorem there_less {w : World} {g o n m : Nat} (h : w.there g o n) (hm : m ≤ n) : w.there g o m := fun j hj => h j (by omega)
theorem there_more {w : World} {g n o m : Nat} (h : w.there g 0 n) (hm : o + m ≤ n) : w.there g o m := fun j hj => by
  have := h (o + j) (by omega)
  rwa [Nat.zero_add] at this
theorem grown_none {w w' : World} (h : w.grownBy w' none) : Below w.heap.size w w' := ⟨h.os, h.tape, h.output, h.size, fun i hi => h.block i hi (by simp)⟩
def bytesV (s : ByteArray) : List Value := s.data.toList.map fun x => Value.int .u8 (x.toNat : Int)
theorem copy_text (g : Nat) (s : ByteArray) (W : World) (h : W.there g 0 (8 + s.size)) :
    (Builtin.copy_ #[40, 9] 3 #[.slice (some ⟨g, 8, none⟩) s.size s.size, .string s]).run Try.prog W = .ok (goInt s.size) (W.setCells g 8 (bytesV s)) :=
  run_copy_string W 40 9 3 5 g 8 s.size s.size s Try.underlying40 (fun w => by rfl) (Nat.le_refl _) (fun j hj => (there_more h (Nat.le_refl _) j hj).1) (fun j hj => (there_more h (Nat.le_refl _) j hj).2)
theorem empty_of {s : ByteArray} (h : s.size = 0) : s = ByteArray.empty := by
  cases s with | mk d => cases d with | mk l => cases l with | nil => rfl | cons a l => simp [ByteArray.size] at h
theorem copy_none (g : Nat) (s : ByteArray) (hs : s.size = 0) (W : World) :
    (Builtin.copy_ #[40, 9] 3 #[.slice (some ⟨g, 0, none⟩) s.size s.size, .string s]).run Try.prog W = .ok (goInt s.size) (W.setCells g 8 (bytesV s)) := by
  have hb : bytesV s = [] := by
    apply List.eq_nil_of_length_eq_zero
    rw [bytesV, List.length_map, data_length]
    exact hs
  have := run_copy_string W 40 9 3 5 g 0 s.size s.size s Try.underlying40 (fun w => by rfl) (by omega) (fun j hj => by omega) (fun j hj => by omega)
  rw [this]
  change Result.ok _ (W.setCells g 0 (bytesV s)) = _
  rw [hb]
  rfl
theorem there_setCells' {w : World} {g n : Nat} {o : Nat} {vs : List Value} (h : w.there g 0 n) : (w.setCells g o vs).there g 0 n := World.there_setCells h _ _ _
def frameL (s : ByteArray) : List Int := fourN (s.size) ++ fourN (moreF (moreF 0 (strOfNums (fourN (s.size)))) s) ++ bytesOf s
def crc_Frame.f (s : ByteArray) : Option (ByteArray × Int) := if 4096 < s.size then some (⟨#[]⟩, 4) else some (strOfNums (frameL s), 0)

theorem conv_row {g n cap : Nat} {xs : List Int} {W : World} (hl : xs.length = n) (h : W.rangeAt g 0 (nums .u8 xs)) : (convert 40 9 (.slice (some ⟨g, 0, none⟩) n cap)).run Try.prog W = .ok (.string (strOfNums xs)) W := by
  refine run_convert_bytes_arg W 40 5 Try.underlying40 Try.underlying5 g 0 n cap xs hl (fun i hi => ?_) 9 Try.underlying9
  have := h i (.int .u8 (xs.getD i 0)) (by simp [nums, List.getElem?_eq_getElem (show i < xs.length by omega), List.getD_eq_getElem?_getD])
  exact this
theorem frameL_length (s : ByteArray) : (frameL s).length = 8 + s.size := by simp [frameL, fourN, bytesOf_length]; omega
theorem bytesV_eq (s : ByteArray) : bytesV s = nums .u8 (bytesOf s) := by simp [bytesV, nums, bytesOf]
theorem str4 (x : Int) : (strOfNums (fourN x)).size ≤ 4611686018427387904 := by simp [strOfNums, fourN, ByteArray.size]
/-- The frame's bytes while it is made: its first four, and its text. -/
structure FrW (w W : World) (x : List Int) (s : ByteArray) : Prop where
  a : W.rangeAt w.heap.size 0 (nums .u8 x)
  t : W.rangeAt w.heap.size 8 (bytesV s)
  th : W.there w.heap.size 0 (8 + s.size)
  sz : w.heap.size < W.heap.size
  bel : Below w.heap.size w W
theorem FrW.mk' {w W : World} {x : List Int} {s : ByteArray} (hx : x.length = 4) (hth : W.there w.heap.size 0 (8 + s.size)) (hsz : w.heap.size < W.heap.size) (hbel : Below w.heap.size w W) :
    FrW w ((W.setCells w.heap.size 0 (nums .u8 x)).setCells w.heap.size 8 (bytesV s)) x s := by
  have hb : (bytesV s).length = s.size := by rw [bytesV, List.length_map, data_length]
  refine ⟨World.rangeAt_setCells_apart (World.rangeAt_setCells_same _ _ _ _ (there_less hth (by rw [nums_length, hx]; omega))) _ _ _ (by rw [nums_length, hx]; omega), World.rangeAt_setCells_same _ _ _ _ (there_more (World.there_setCells hth _ _ _) (by rw [hb]; exact Nat.le_refl _)), World.there_setCells (World.there_setCells hth _ _ _) _ _ _, by rw [size_cells, size_cells]; exact hsz, below_cells (Nat.le_refl _) _ _ (below_cells (Nat.le_refl _) _ _ hbel)⟩
theorem FrW.drewN {w W : World} {x : List Int} {s : ByteArray} (h : FrW w W x s) (n : Nat) : FrW w (W.drewN n) x s :=
  have hb : Below W.heap.size W (W.drewN n) := pw_below_drewN (Below.refl _ _) n
  ⟨rangeAt_below h.a hb h.sz, rangeAt_below h.t hb h.sz, there_below h.th hb h.sz, Nat.lt_of_lt_of_le h.sz hb.size, below_then h.bel (Nat.le_of_lt h.sz) hb⟩
theorem FrW.keep {w W W1 : World} {x : List Int} {s : ByteArray} (h : FrW w W x s) (hb : Below W.heap.size W W1) : FrW w W1 x s :=
  ⟨rangeAt_below h.a hb h.sz, rangeAt_below h.t hb h.sz, there_below h.th hb h.sz, Nat.lt_of_lt_of_le h.sz hb.size, below_then h.bel (Nat.le_of_lt h.sz) hb⟩
theorem FrW.last {w W : World} {s : ByteArray} (h : FrW w W (fourN s.size) s) (y : Int) :
    (W.setCells w.heap.size 4 (nums .u8 (fourN y))).rangeAt w.heap.size 0 (nums .u8 (fourN s.size ++ fourN y ++ bytesOf s)) ∧ Below w.heap.size w (W.setCells w.heap.size 4 (nums .u8 (fourN y))) := by
  refine ⟨fun j v hv => ?_, below_cells (Nat.le_refl _) _ _ h.bel⟩
  have l4 : ∀ x, (nums .u8 (fourN x)).length = 4 := fun x => rfl
  have hA := World.rangeAt_setCells_apart h.a w.heap.size 4 (nums .u8 (fourN y)) (.inr (.inl (by rw [l4]; omega)))
  have hM := World.rangeAt_setCells_same W w.heap.size 4 (nums .u8 (fourN y)) (there_more h.th (by rw [l4]; omega))
  have hT := World.rangeAt_setCells_apart h.t w.heap.size 4 (nums .u8 (fourN y)) (.inr (.inr (by rw [l4]; omega)))
  rw [nums_append, nums_append, List.append_assoc, List.getElem?_append, l4] at hv
  split at hv
  · exact hA j v hv
  · rw [List.getElem?_append, l4] at hv
    split at hv
    · have := hM (j - 4) v hv; rwa [show 4 + (j - 4) = 0 + j by omega] at this
    · rw [← bytesV_eq] at hv
      have := hT (j - 4 - 4) v hv; rwa [show 8 + (j - 4 - 4) = 0 + j by omega] at this
theorem of_any (s : ByteArray) (hs : s.size ≤ 4611686018427387904) (w : World) : Calls Try.prog 8 #[.string s] w fun e w' => e = .returned (.int .u32 (moreF 0 s)) ∧ Below w.heap.size w w' :=
  (crc_Of.calls (s.size + 10) s _ w (of_is s hs _ (Nat.le_refl _))).mono fun _ _ ⟨he, hd⟩ => ⟨he, hd.below⟩
theorem more_any (a : Int) (s : ByteArray) (hs : s.size ≤ 4611686018427387904) (w : World) : Calls Try.prog 10 #[.int .u32 a, .string s] w fun e w' => e = .returned (.int .u32 (moreF a s)) ∧ Below w.heap.size w w' :=
  (crc_More.calls (s.size + 10) a s _ w (more_is a s hs _ (Nat.le_refl _))).mono fun _ _ ⟨he, hd⟩ => ⟨he, hd.below⟩
set_option maxHeartbeats 1000000 in
theorem crc_Frame.calls (a0 : ByteArray) (r1 : ByteArray) (r2 : Int) (w : World) (h : crc_Frame.f a0 = some (r1, r2)) :
    Calls Try.prog 14 #[.string a0] w fun e w' => e = .returned (.tuple #[.string r1, .int .i64 r2]) ∧ Below w.heap.size w w' := by
  unfold crc_Frame.f at h
  by_cases hn : 4096 < a0.size
  · rw [if_pos hn] at h
    obtain ⟨rfl, rfl⟩ := Prod.mk.inj (Option.some.inj h)
    have hn' : (4096 : Int) < a0.size := by omega
    clear h
    go_enter Try.func14, Try.ntmps14
    go_wp2
    go_ret2
    exact ⟨rfl, Below.refl _ _⟩
  · rw [if_neg hn] at h
    obtain ⟨rfl, rfl⟩ := Prod.mk.inj (Option.some.inj h)
    clear h
    have hn' : (a0.size : Int) ≤ 4096 := by omega
    have hbig : a0.size ≤ 4611686018427387904 := by omega
    obtain ⟨i0, hi, hz0, hz1, hz2⟩ := info_parts info5
    have hmx : 8 + a0.size ≤ maxLen := by unfold maxLen; omega
    have hf4 : (fourN (a0.size : Int)).length = 4 := rfl
    have HF4 := Lib.hid hf4
    clear hf4
    by_cases h0 : a0.size = 0
    · have he : a0 = ByteArray.empty := empty_of h0
      subst he
      clear h0 hn' hn hbig hmx HF4
      have hmx : 8 ≤ maxLen := by unfold maxLen; omega
      have hcp : ∀ W, (Builtin.copy_ #[40, 9] 3 #[.slice (some ⟨w.heap.size, 0, none⟩) 0 0, .string ByteArray.empty]).run Try.prog W = .ok (goInt 0) W := fun W => copy_none w.heap.size ByteArray.empty rfl W
      go_enter Try.func14, Try.ntmps14
      go_wp2_with (first
        | (at_make; refine wpList_make_full _ rfl _ _ 40 rfl w.heap.size 5 i0 (.int .u8 0) 1 Try.underlying40 hi hz0 hz1 _ _ _ _ 8 rfl rfl (by omega) (by omega) (by rw [hz2]; omega) hmx (Nat.le_refl _) ?_; intro w1 hown hgr; have hth := there_owned hown; have hsz1 := own_lt hown _ rfl; have hbel := grown_none hgr; clear hown hgr)
        | (go_at_call 23; refine (put_at w.heap.size 0 8 8 _ _ (by omega) (there_less hth (by omega))).mono ?_; rintro e w2 ⟨rfl, rfl⟩))
      have HW := FrW.mk' (x := fourN 0) (s := ByteArray.empty) rfl hth hsz1 hbel
      change FrW w (w1.setCells w.heap.size 0 (nums .u8 (fourN 0))) (fourN 0) ByteArray.empty at HW
      clear hth hsz1 hbel
      generalize World.setCells w1 _ _ _ = W2 at HW ⊢
      have hcv := conv_row (cap := 8) (n := 4) rfl (HW.drewN 1).a
      change (convert 40 9 _).run Try.prog W2.drew = _ at hcv
      go_region_with (first | (go_at_call 8; refine (of_any _ (str4 _) _).mono ?_; rintro e w3 ⟨rfl, hb3⟩) | (go_at_call 10; refine (more_any _ _ (by decide) _).mono ?_; rintro e w4 ⟨rfl, hb4⟩) | (go_at_call 23; refine (put_at w.heap.size 4 4 4 _ _ (by omega) (there_more (((HW.drewN 1).keep hb3).keep hb4).th (by omega))).mono ?_; rintro e w5 ⟨rfl, rfl⟩))
      all_goals
        have H5 := FrW.last (s := ByteArray.empty) (((HW.drewN 1).keep hb3).keep hb4) (moreF (moreF 0 (strOfNums (fourN 0))) ByteArray.empty)
        clear hcv
        have hcv := conv_row (cap := 8) (n := 8) (show (frameL ByteArray.empty).length = 8 by rw [frameL_length]; rfl) H5.1
        go_wp2_with fail
        go_ret2
        exact ⟨rfl, H5.2⟩
    · have hpos : 0 < a0.size := by omega
      have hne : ¬ a0 = ByteArray.empty := fun e => h0 (by rw [e]; rfl)
      have h84 : ¬ 8 + a0.size = 4 := by omega
      clear h0
      go_enter Try.func14, Try.ntmps14
      go_wp2_with (first
        | (at_make; refine wpList_make_full _ rfl _ _ 40 rfl w.heap.size 5 i0 (.int .u8 0) 1 Try.underlying40 hi hz0 hz1 _ _ _ _ (8 + a0.size) rfl rfl (by omega) (by omega) (by rw [hz2]; omega) hmx (Nat.le_refl _) ?_; intro w1 hown hgr; have hth := there_owned hown; have hsz1 := own_lt hown _ rfl; have hbel := grown_none hgr; clear hown hgr)
        | (go_at_call 23; refine (put_at w.heap.size 0 (8 + a0.size) (8 + a0.size) _ _ (by omega) (there_less hth (by omega))).mono ?_; rintro e w2 ⟨rfl, rfl⟩)
        | ((with_reducible refine gate_builtin (b := .copy) (xs := #[.tmp 18, .tmp 19]) (ts := #[40, 9]) rfl ?_); go_must (refine Lib.wpList_copy_run _ rfl (.tmp 18) (.tmp 19) 40 9 rfl (.slice (some ⟨w.heap.size, 8, none⟩) a0.size a0.size) (.string a0) rfl rfl (copy_text w.heap.size a0 _ (there_setCells' hth)) ?_); have HW := FrW.mk' HF4.out hth hsz1 hbel; clear hth hsz1 hbel; generalize World.setCells (World.setCells w1 _ _ _) _ _ _ = W2 at HW ⊢))
      have hcv := conv_row (cap := 8 + a0.size) HF4.out (HW.drewN 1).a
      change (convert 40 9 _).run Try.prog W2.drew = _ at hcv
      go_region_with (first | (go_at_call 8; refine (of_any _ (str4 _) _).mono ?_; rintro e w3 ⟨rfl, hb3⟩) | (go_at_call 10; refine (more_any _ _ hbig _).mono ?_; rintro e w4 ⟨rfl, hb4⟩) | (go_at_call 23; refine (put_at w.heap.size 4 (8 + a0.size - 4) (8 + a0.size - 4) _ _ (by omega) (there_more (((HW.drewN 1).keep hb3).keep hb4).th (by omega))).mono ?_; rintro e w5 ⟨rfl, rfl⟩))
      all_goals
        have H5 := (((HW.drewN 1).keep hb3).keep hb4).last (moreF (moreF 0 (strOfNums (fourN (a0.size : Int)))) a0)
        clear hcv
        have hcv := conv_row (cap := 8 + a0.size) (frameL_length a0) H5.1
        go_wp2_with fail
        go_ret2
        exact ⟨rfl, H5.2⟩
end Go.Proofs.Ytbeffjdplelojaa.Pr
