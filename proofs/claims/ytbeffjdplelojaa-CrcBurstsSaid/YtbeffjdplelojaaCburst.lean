import Derived.Test.YtbeffjdplelojaaBalive
import Derived.Lib.ConvBytes
namespace Go.Proofs.Ytbeffjdplelojaa.Pr
open Go.RowKit Go.Proofs.YtbeffjdplelojaaW.PrintWords Go.Proofs.YtbeffjdplelojaaW.PrintLast Go.Proofs.YtbeffjdplelojaaW.PrintMore
set_option linter.unusedVariables false
set_option linter.unusedSimpArgs false

theorem alive_any (w : World) : Calls Try.prog 7 #[] w fun e w' => e = .returned (.bool true) ∧ Below w.heap.size w w' :=
  portcullislaw22_alive.calls 200 true w (alive_is 200 (by omega))
theorem mask_lt (a : Int) : ∃ n : Nat, bits .and .i64 a 16777215 = (n : Int) ∧ n < 16777216 := by
  have hb : IntKind.i64.bits = 64 := rfl
  have h : (BitVec.ofInt 64 a &&& BitVec.ofInt 64 16777215).toNat < 2 ^ 24 := by
    rw [BitVec.toNat_and]
    exact Nat.and_lt_two_pow _ (by decide)
  refine ⟨(BitVec.ofInt 64 a &&& BitVec.ofInt 64 16777215).toNat, ?_, h⟩
  show IntKind.i64.wrap _ = _
  rw [IntKind.wrap_i64]
  change (((BitVec.ofInt 64 a &&& BitVec.ofInt 64 16777215).toNat : Int) + 9223372036854775808) % 18446744073709551616 - 9223372036854775808 = _
  omega
theorem place_is (a : Int) (n : Nat) (hn : 4 ≤ n) : ∃ k : Nat, (bits .and .i64 a 16777215).tmod ((n : Int) - 3) = (k : Int) ∧ k + 3 < n := by
  obtain ⟨m, hm, _⟩ := mask_lt a
  refine ⟨m % (n - 3), ?_, ?_⟩
  · rw [hm, show (n : Int) - 3 = ((n - 3 : Nat) : Int) by omega]
    rfl
  · have := Nat.mod_lt m (show 0 < n - 3 by omega)
    omega
/-- The text's bytes in a block of the call's own. -/
structure BuW (w W : World) (l : List Int) : Prop where
  ra : W.rangeAt w.heap.size 0 (nums .u8 l)
  th : W.there w.heap.size 0 l.length
  sz : w.heap.size < W.heap.size
  bel : Below w.heap.size w W
theorem BuW.start (w : World) (s : ByteArray) : BuW w (Lib.bytesWorld w 5 s) (bytesOf s) := by
  have hn := Lib.bytesWorld_at_new w 5 s
  have hz := Lib.bytesWorld_size w 5 s
  refine ⟨fun j v hv => ?_, fun j hj => ?_, by omega, ⟨rfl, rfl, rfl, by omega, fun i hi => Lib.bytesWorld_at_old w 5 s i hi⟩⟩
  · have hj : j < s.size := by
      have := (List.getElem?_eq_some_iff.1 hv).1
      rwa [nums_length, bytesOf_length] at this
    rw [Nat.zero_add, Lib.bytesWorld_cell w 5 s j hj, ← hv]
    have hl : j < s.data.toList.length := by rw [data_length]; exact hj
    simp [nums, bytesOf, List.getD_eq_getElem?_getD, List.getElem?_eq_getElem hl]
  · rw [bytesOf_length] at hj
    rw [Nat.zero_add, Lib.bytesWorld_cell w 5 s j hj]
    have hc : j < (Lib.bytesCells w 5 s).size := by
      simp [Lib.bytesCells]
      have : s.data.size = s.size := rfl
      omega
    refine ⟨rfl, ?_⟩
    simp [World.frozen?, hn]
    omega
theorem BuW.keep {w W W1 : World} {l : List Int} (h : BuW w W l) (hb : Below W.heap.size W W1) : BuW w W1 l :=
  ⟨rangeAt_below h.ra hb h.sz, there_below h.th hb h.sz, Nat.lt_of_lt_of_le h.sz hb.size, below_then h.bel (Nat.le_of_lt h.sz) hb⟩
theorem BuW.set {w W : World} {l : List Int} (h : BuW w W l) (k : Nat) (hk : k < l.length) (x : Int) : BuW w (W.setCell ⟨w.heap.size, k, none⟩ (.int .u8 x)) (l.set k x) := by
  have hr : Row W w.heap.size (nums .u8 l) := ⟨h.ra, by rw [nums_length]; exact h.th⟩
  have hd := (hr.but k).done (by rw [nums_length]; exact hk) (.int .u8 x)
  have e : (nums .u8 l).set k (.int .u8 x) = nums .u8 (l.set k x) := by simp [nums]
  rw [e] at hd
  refine ⟨hd.at_, by have := hd.th; rwa [nums_length] at this, by simpa using h.sz, h.bel.setCell (by simp) _⟩
theorem BuW.cell {w W : World} {l : List Int} (h : BuW w W l) (k : Nat) (hk : k < l.length) : W.cell? ⟨w.heap.size, k, none⟩ = some (.int .u8 (l.getD k 0)) ∧ W.frozen? ⟨w.heap.size, k, none⟩ = false := by
  have h1 := h.ra k (.int .u8 (l.getD k 0)) (by simp [nums, List.getD_eq_getElem?_getD, List.getElem?_eq_getElem hk])
  have h2 := (h.th k hk).2
  rw [Nat.zero_add] at h1 h2
  exact ⟨h1, h2⟩
def burst (l : List Int) (k : Nat) (x : Int) : List Int :=
  (((l.set k (bits .xor .u8 (l[k]?.getD 0) (x % 256))).set (k + 1) (bits .xor .u8 (l[k + 1]?.getD 0) (x / 256 % 256))).set (k + 2) (bits .xor .u8 (l[k + 2]?.getD 0) (x / 65536 % 256))).set (k + 3) (bits .xor .u8 (l[k + 3]?.getD 0) (x / 16777216 % 256))
theorem burst_length (l : List Int) (k : Nat) (x : Int) : (burst l k x).length = l.length := by simp [burst]
theorem BuW.burst {w W : World} {l : List Int} (h : BuW w W l) (k : Nat) (hk : k + 3 < l.length) (x : Int) :
    BuW w ((((W.setCell ⟨w.heap.size, k, none⟩ (.int .u8 (bits .xor .u8 (l[k]?.getD 0) (x % 256)))).setCell ⟨w.heap.size, k + 1, none⟩ (.int .u8 (bits .xor .u8 (l[k + 1]?.getD 0) (x / 256 % 256)))).setCell ⟨w.heap.size, k + 2, none⟩ (.int .u8 (bits .xor .u8 (l[k + 2]?.getD 0) (x / 65536 % 256)))).setCell ⟨w.heap.size, k + 3, none⟩ (.int .u8 (bits .xor .u8 (l[k + 3]?.getD 0) (x / 16777216 % 256)))) (burst l k x) :=
  (((h.set k (by omega) _).set (k + 1) (by simp; omega) _).set (k + 2) (by simp; omega) _).set (k + 3) (by simp; omega) _
theorem BuW.conv {w W : World} {l : List Int} (h : BuW w W l) (n c : Nat) (hl : l.length = n) : (convert 40 9 (.slice (some ⟨w.heap.size, 0, none⟩) n c)).run Try.prog W = .ok (.string (strOfNums l)) W := conv_row hl h.ra

/-! ### Four bytes side by side -/
theorem N1_even (z : Nat) : N1 (2 * z) = z := by
  unfold N1
  rw [if_neg (by omega), Nat.xor_zero]
  omega
theorem N8_shift (y : Nat) : N8 (256 * y) = y := by
  unfold N8
  rw [show 256 * y = 2 * (2 * (2 * (2 * (2 * (2 * (2 * (2 * y))))))) by omega]
  simp only [N1_even]
theorem N1_zero {x : Nat} (hx : x < 2 ^ 32) (h : N1 x = 0) : x = 0 := by
  unfold N1 at h
  rcases Nat.mod_two_eq_zero_or_one x with e | e
  · rw [if_neg (by omega), Nat.xor_zero] at h
    omega
  · rw [if_pos e] at h
    rw [Nat.xor_comm] at h
    have := congrArg (fun y => 3988292384 ^^^ y) h
    simp only [xor_self_left, Nat.xor_zero] at this
    omega
theorem N8_zero {x : Nat} (hx : x < 2 ^ 32) (h : N8 x = 0) : x = 0 := by
  have h1 := N1_lt hx
  have h2 := N1_lt h1
  have h3 := N1_lt h2
  have h4 := N1_lt h3
  have h5 := N1_lt h4
  have h6 := N1_lt h5
  have h7 := N1_lt h6
  exact N1_zero hx (N1_zero h1 (N1_zero h2 (N1_zero h3 (N1_zero h4 (N1_zero h5 (N1_zero h6 (N1_zero h7 h)))))))
theorem iter_zero (n : Nat) : ∀ {x : Nat}, x < 2 ^ 32 → iter N8 n x = 0 → x = 0 := by
  induction n with
  | zero => intro x _ h; exact h
  | succ n ih => intro x hx h; exact N8_zero hx (ih (N8_lt hx) h)
theorem add_xor (i a b : Nat) (h : a < 2 ^ i) : a ^^^ 2 ^ i * b = a + 2 ^ i * b := by
  rw [← or_add i a b h]
  apply Nat.eq_of_testBit_eq
  intro j
  rw [Nat.testBit_xor, Nat.testBit_or, Nat.testBit_two_pow_mul]
  by_cases hj : i ≤ j
  · have : a.testBit j = false := Nat.testBit_lt_two_pow (Nat.lt_of_lt_of_le h (Nat.pow_le_pow_right (by omega) hj))
    simp [this]
  · simp [hj]
theorem four_steps (x0 x1 x2 x3 : Nat) (h0 : x0 < 256) (h1 : x1 < 256) (h2 : x2 < 256) (h3 : x3 < 256) :
    N8 (N8 (N8 (N8 x0 ^^^ x1) ^^^ x2) ^^^ x3) = iter N8 4 (x0 + 256 * x1 + 65536 * x2 + 16777216 * x3) := by
  have e1 : N8 x0 ^^^ x1 = N8 (x0 + 256 * x1) := by
    conv => lhs; rw [← N8_shift x1]
    rw [← N8_xor]
    exact congrArg N8 (add_xor 8 x0 x1 h0)
  have e2 : N8 (N8 (x0 + 256 * x1)) ^^^ x2 = N8 (N8 (x0 + 256 * x1 + 65536 * x2)) := by
    conv => lhs; rw [← N8_shift x2]
    rw [← N8_xor]
    conv => lhs; rw [← N8_shift (256 * x2)]
    rw [← N8_xor, show 256 * (256 * x2) = 2 ^ 16 * x2 by omega, add_xor 16 _ x2 (by omega)]
  have e3 : N8 (N8 (N8 (x0 + 256 * x1 + 65536 * x2))) ^^^ x3 = N8 (N8 (N8 (x0 + 256 * x1 + 65536 * x2 + 16777216 * x3))) := by
    conv => lhs; rw [← N8_shift x3]
    rw [← N8_xor]
    conv => lhs; rw [← N8_shift (256 * x3)]
    rw [← N8_xor]
    conv => lhs; rw [← N8_shift (256 * (256 * x3))]
    rw [← N8_xor, show 256 * (256 * (256 * x3)) = 2 ^ 24 * x3 by omega, add_xor 24 _ x3 (by omega)]
  rw [e1, e2, e3]
  rfl
theorem go_four (r c0 c1 c2 c3 x0 x1 x2 x3 : Nat) : goN [c0 ^^^ x0, c1 ^^^ x1, c2 ^^^ x2, c3 ^^^ x3] r = goN [c0, c1, c2, c3] r ^^^ N8 (N8 (N8 (N8 x0 ^^^ x1) ^^^ x2) ^^^ x3) := by
  have sw : ∀ a b c d : Nat, (a ^^^ b) ^^^ (c ^^^ d) = (a ^^^ c) ^^^ (b ^^^ d) := by
    intro a b c d
    apply Nat.eq_of_testBit_eq
    intro i
    simp only [Nat.testBit_xor]
    cases a.testBit i <;> cases b.testBit i <;> cases c.testBit i <;> cases d.testBit i <;> rfl
  simp only [goN, List.foldl_cons, List.foldl_nil]
  have s0 : N8 (r ^^^ (c0 ^^^ x0)) = N8 (r ^^^ c0) ^^^ N8 x0 := by rw [← Nat.xor_assoc, N8_xor]
  have s1 : ∀ u v c x, N8 (u ^^^ v ^^^ (c ^^^ x)) = N8 (u ^^^ c) ^^^ N8 (v ^^^ x) := fun u v c x => by rw [sw, N8_xor]
  rw [s0, s1, s1, s1]
theorem burst_more (P S : List Nat) (c0 c1 c2 c3 x : Nat) (hx : x < 2 ^ 32) :
    moreN 0 (P ++ [c0, c1, c2, c3] ++ S) = moreN 0 (P ++ [c0 ^^^ (x % 256), c1 ^^^ (x / 256 % 256), c2 ^^^ (x / 65536 % 256), c3 ^^^ (x / 16777216 % 256)] ++ S) ↔ x = 0 := by
  have e : ∀ Q : List Nat, moreN 0 (P ++ Q ++ S) = 4294967295 ^^^ goN S (goN Q (goN P 4294967295)) := fun Q => by
    unfold moreN
    rw [goN_append, goN_append, Nat.xor_zero]
  rw [e, e, go_four, four_steps _ _ _ _ (by omega) (by omega) (by omega) (by omega), goN_xor, ← iter_add]
  have hs : x % 256 + 256 * (x / 256 % 256) + 65536 * (x / 65536 % 256) + 16777216 * (x / 16777216 % 256) = x := by omega
  rw [hs]
  generalize goN S (goN [c0, c1, c2, c3] (goN P 4294967295)) = u
  constructor
  · intro h
    have h2 : u = u ^^^ iter N8 (4 + S.length) x := by
      have := congrArg (fun y => 4294967295 ^^^ y) h
      simpa only [xor_self_left] using this
    have h3 : iter N8 (4 + S.length) x = 0 := by
      have := congrArg (fun y => u ^^^ y) h2
      simp only [xor_self_left, Nat.xor_self] at this
      exact this.symm
    exact iter_zero _ hx h3
  · rintro rfl
    rw [(iter_lin N8_lin _).zero, Nat.xor_zero]
theorem xor8 (a b : Nat) (ha : a < 256) (hb : b < 256) : Go.bits .xor .u8 (a : Int) (b : Int) = ((a ^^^ b : Nat) : Int) := by
  have h : a ^^^ b < 2 ^ 8 := Nat.xor_lt_two_pow ha hb
  have hb8 : IntKind.u8.bits = 8 := rfl
  simp only [bits, BitVec.ofInt_natCast, BitVec.toNat_xor, BitVec.toNat_ofNat, hb8, Nat.mod_eq_of_lt (show a < 2 ^ 8 from ha), Nat.mod_eq_of_lt (show b < 2 ^ 8 from hb)]
  rw [IntKind.wrap_u8]
  omega
theorem parts_of (l : List Nat) (k : Nat) (hk : k + 3 < l.length) : ∃ P S c0 c1 c2 c3, l = P ++ [c0, c1, c2, c3] ++ S ∧ P.length = k := by
  refine ⟨l.take k, l.drop (k + 4), l[k], l[k + 1], l[k + 2], l[k + 3], ?_, by simp; omega⟩
  conv => lhs; rw [← List.take_append_drop k l, List.drop_eq_getElem_cons (by omega), List.drop_eq_getElem_cons (by omega), List.drop_eq_getElem_cons (by omega), List.drop_eq_getElem_cons (by omega)]
  simp
theorem burst_parts (P S : List Nat) (c0 c1 c2 c3 x : Nat) (h0 : c0 < 256) (h1 : c1 < 256) (h2 : c2 < 256) (h3 : c3 < 256) :
    burst ((P ++ [c0, c1, c2, c3] ++ S).map fun n : Nat => (n : Int)) P.length (x : Int) = (P ++ [c0 ^^^ (x % 256), c1 ^^^ (x / 256 % 256), c2 ^^^ (x / 65536 % 256), c3 ^^^ (x / 16777216 % 256)] ++ S).map fun n : Nat => (n : Int) := by
  have b0 := xor8 c0 (x % 256) h0 (by omega)
  have b1 := xor8 c1 (x / 256 % 256) h1 (by omega)
  have b2 := xor8 c2 (x / 65536 % 256) h2 (by omega)
  have b3 := xor8 c3 (x / 16777216 % 256) h3 (by omega)
  simp only [Int.natCast_emod, Int.natCast_ediv, Int.cast_ofNat_Int] at b0 b1 b2 b3
  have hP : (P.map fun n : Nat => (n : Int)).length = P.length := by simp
  generalize hQ : (P.map fun n : Nat => (n : Int)) = Q at hP
  unfold burst
  simp only [List.map_append, List.map_cons, List.map_nil, hQ, ← hP, List.append_assoc]
  simp [List.set_append, List.getElem?_append]
  exact ⟨b0, b1, b2, b3⟩
theorem burst_tells (s : ByteArray) (k : Nat) (hk : k + 3 < s.size) (a : Int) (ha : (Lit.int .u32 a).wf = true) :
    ((moreF 0 s == moreF 0 (strOfNums (burst (bytesOf s) k a))) == (a == 0)) = true := by
  have hw := ha
  simp only [Lit.wf, Bool.and_eq_true, decide_eq_true_eq] at hw
  have hmin : IntKind.u32.min = 0 := rfl
  have hmax : IntKind.u32.max = 4294967295 := rfl
  obtain ⟨x, rfl, hx⟩ : ∃ x : Nat, a = x ∧ x < 2 ^ 32 := ⟨a.toNat, by omega, by omega⟩
  obtain ⟨P, S, c0, c1, c2, c3, hl, hp⟩ := parts_of (bl s) k (by rw [bl_length]; exact hk)
  have hlt := bl_lt s
  rw [hl] at hlt
  have hb := burst_parts P S c0 c1 c2 c3 x (hlt _ (by simp)) (hlt _ (by simp)) (hlt _ (by simp)) (hlt _ (by simp))
  rw [bytesOf_bl, hl, ← hp, hb]
  have hlt2 : ∀ c ∈ P ++ [c0 ^^^ (x % 256), c1 ^^^ (x / 256 % 256), c2 ^^^ (x / 65536 % 256), c3 ^^^ (x / 16777216 % 256)] ++ S, c < 256 := by
    have hx8 : ∀ u v : Nat, u < 256 → v < 256 → u ^^^ v < 256 := fun u v hu hv => Nat.xor_lt_two_pow (n := 8) hu hv
    intro c hc
    simp only [List.mem_append, List.mem_cons, List.not_mem_nil, or_false] at hc
    rcases hc with (hc | rfl | rfl | rfl | rfl) | hc
    · exact hlt c (by simp [hc])
    · exact hx8 _ _ (hlt _ (by simp)) (by omega)
    · exact hx8 _ _ (hlt _ (by simp)) (by omega)
    · exact hx8 _ _ (hlt _ (by simp)) (by omega)
    · exact hx8 _ _ (hlt _ (by simp)) (by omega)
    · exact hlt c (by simp [hc])
  have m1 := moreF_nat 0 s (by omega)
  have m2 := moreF_nat 0 (strOfNums ((P ++ [c0 ^^^ (x % 256), c1 ^^^ (x / 256 % 256), c2 ^^^ (x / 65536 % 256), c3 ^^^ (x / 16777216 % 256)] ++ S).map fun n : Nat => (n : Int))) (by omega)
  rw [bl_strOfNums _ hlt2] at m2
  rw [hl] at m1
  rw [show ((0 : Nat) : Int) = 0 from rfl] at m1 m2
  rw [m1, m2]
  have key := burst_more P S c0 c1 c2 c3 x hx
  by_cases h : x = 0
  · have h1 := key.2 h
    rw [h1]
    simp [h]
  · have h1 : ¬ _ := fun e => h (key.1 e)
    have h2 : ((moreN 0 (P ++ [c0, c1, c2, c3] ++ S) : Nat) : Int) ≠ ((moreN 0 (P ++ [c0 ^^^ (x % 256), c1 ^^^ (x / 256 % 256), c2 ^^^ (x / 65536 % 256), c3 ^^^ (x / 16777216 % 256)] ++ S) : Nat) : Int) := fun e => h1 (by omega)
    rw [beq_eq_false_iff_ne.2 h2, beq_eq_false_iff_ne.2 (show (x : Int) ≠ 0 by omega)]
    rfl

set_option maxHeartbeats 1000000 in
theorem bursts_go (a0 : ByteArray) (a1 a2 : Int) (w : World) (h1 : a0.size ≤ 8192) (h2 : 4 ≤ a0.size) (w2 : (Lit.int .u32 a2).wf = true) :
    Calls Try.prog 5 #[.string a0, .int .i64 a1, .int .u32 a2] w fun e w' => e = .returned (.bool true) ∧ Below w.heap.size w w' := by
  have hcs := fun (W : World) => Lib.run_convert_string_bytes (P := Try.prog) W 9 40 5 a0 Try.underlying9 Try.underlying40 Try.underlying5
  have b1 : (a0.size : Int) ≤ 8192 := by omega
  have b2 : (4 : Int) ≤ a0.size := by omega
  obtain ⟨k, hk, hk3⟩ := place_is a1 a0.size h2
  have HK := Lib.hid hk
  have HG := Lib.hid (burst_tells a0 k hk3 a2 w2)
  clear hk w2
  go_enter Try.func5, Try.ntmps5
  go_wp2_with fail
  have hW := BuW.start w a0
  simp only [HK.out]
  generalize Lib.bytesWorld w 5 a0 = W at hW ⊢
  clear hcs
  have hlen : (bytesOf a0).length = a0.size := bytesOf_length a0
  obtain ⟨c0, f0⟩ := hW.cell k (by omega)
  obtain ⟨c1, f1⟩ := hW.cell (k + 1) (by omega)
  obtain ⟨c2, f2⟩ := hW.cell (k + 2) (by omega)
  obtain ⟨c3, f3⟩ := hW.cell (k + 3) (by omega)
  have HL := Lib.hid hlen
  clear hlen
  refine wp_loop_rounds 5 ?_
  rw [rounds_succ]
  go_wp2_with fail
  rw [rounds_succ]
  go_wp2_with fail
  rw [rounds_succ]
  go_wp2_with fail
  rw [rounds_succ]
  go_wp2_with fail
  rw [rounds_succ]
  go_wp2_with fail
  have hB := hW.burst k (by rw [HL.out]; exact hk3) a2
  clear hW c0 c1 c2 c3 f0 f1 f2 f3
  generalize World.setCell (World.setCell (World.setCell (World.setCell W _ _) _ _) _ _) _ _ = W4 at hB ⊢
  have hBd : BuW w W4.drew (burst (bytesOf a0) k a2) := hB.keep (below_drew (Below.refl _ _))
  clear hB
  have hbl : (burst (bytesOf a0) k a2).length = a0.size := by rw [burst_length, HL.out]
  have hcv : ∀ W', BuW w W' (burst (bytesOf a0) k a2) → (convert 40 9 (.slice (some ⟨w.heap.size, 0, none⟩) a0.size (grownCap w a0.size 0 5))).run Try.prog W' = .ok (.string (strOfNums (burst (bytesOf a0) k a2))) W' := fun W' h => h.conv _ _ hbl
  have hs0 : a0.size ≤ 4611686018427387904 := by omega
  have hsB : (strOfNums (burst (bytesOf a0) k a2)).size ≤ 4611686018427387904 := by
    have : (strOfNums (burst (bytesOf a0) k a2)).size = a0.size := by rw [← hbl]; simp [strOfNums, ByteArray.size]
    omega
  have hg := HG.out
  clear hbl
  go_region_with (first | (go_at_call 8; refine (of_any _ (by assumption) _).mono ?_; rintro e w3 ⟨rfl, hb3⟩; have hk3 := BuW.keep (by assumption) hb3) | (go_at_call 7; refine (alive_any _).mono ?_; rintro e w5 ⟨rfl, hb5⟩; have hk5 := BuW.keep (by assumption) hb5))
  all_goals
    go_wp2_with fail
    go_ret
    exact ⟨rfl, hk5.bel⟩

theorem portcullislaw22_CrcBursts.walk (_P : True) (a0 : ByteArray) (a1 : Int) (a2 : Int) (w : World) (_w0 : a0.size ≤ 140737488351232) (_w1 : (Lit.int .i64 a1).wf = true) (w2 : (Lit.int .u32 a2).wf = true) :
    Calls Try.prog 5 #[.string a0, .int .i64 a1, .int .u32 a2] w fun e w' => e = .returned (.bool true) ∧ Below w.heap.size w w' := by
  by_cases h1 : a0.size ≤ 8192
  · by_cases h2 : 4 ≤ a0.size
    · exact bursts_go a0 a1 a2 w h1 h2 w2
    · have b1 : (a0.size : Int) ≤ 8192 := by omega
      have b2 : (a0.size : Int) < 4 := by omega
      clear _w1 w2
      go_enter Try.func5, Try.ntmps5
      go_wp2_with (first | (go_at_call 7; refine (alive_any _).mono ?_; rintro e w5 ⟨rfl, hb5⟩))
      go_ret
      exact ⟨rfl, hb5⟩
  · have b1 : (8192 : Int) < a0.size := by omega
    clear _w1 w2
    go_enter Try.func5, Try.ntmps5
    go_wp2_with (first | (go_at_call 7; refine (alive_any _).mono ?_; rintro e w5 ⟨rfl, hb5⟩))
    go_ret
    exact ⟨rfl, hb5⟩
end Go.Proofs.Ytbeffjdplelojaa.Pr
