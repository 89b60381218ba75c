import Derived.Test.YtbeffjdplelojaaBsum
namespace Go.Proofs.Ytbeffjdplelojaa.Pr
open Go.RowKit Go.Proofs.YtbeffjdplelojaaW.PrintWords Go.Proofs.YtbeffjdplelojaaW.PrintLast Go.Proofs.YtbeffjdplelojaaW.PrintMore
set_option linter.unusedVariables false
set_option linter.unusedSimpArgs false

theorem or32 (a b : Nat) (ha : a < 2 ^ 32) (hb : b < 2 ^ 32) : Go.bits .or .u32 (a : Int) (b : Int) = ((a ||| b : Nat) : Int) := by
  have h : a ||| b < 2 ^ 32 := Nat.or_lt_two_pow ha hb
  have hb32 : IntKind.u32.bits = 32 := rfl
  simp only [bits, BitVec.ofInt_natCast, BitVec.toNat_or, BitVec.toNat_ofNat, hb32, Nat.mod_eq_of_lt ha, Nat.mod_eq_of_lt hb]
  rw [IntKind.wrap_u32]
  omega
theorem or_add (n x b : Nat) (h : x < 2 ^ n) : x ||| 2 ^ n * b = x + 2 ^ n * b := by
  rw [Nat.or_comm, ← Nat.two_pow_add_eq_or_of_lt h, Nat.add_comm]
/-- A number out of four bytes, the lowest first. -/
def get4 (l : List Nat) : Nat := l.getD 0 0 + 256 * l.getD 1 0 + 65536 * l.getD 2 0 + 16777216 * l.getD 3 0
def four4 (x : Nat) : List Nat := [x % 256, x / 256 % 256, x / 65536 % 256, x / 16777216 % 256]
theorem get_four (x : Nat) (h : x < 2 ^ 32) (m : List Nat) : get4 (four4 x ++ m) = x := by simp [get4, four4]; omega
theorem get4_lt (s : ByteArray) (i : Nat) : get4 ((bl s).drop i) < 2 ^ 32 := by
  have h : ∀ j, ((bl s).drop i).getD j 0 < 256 := fun j => by
    have := bl_at_lt s (i + j)
    simpa [List.getD_eq_getElem?_getD, List.getElem?_drop] using this
  have h0 := h 0
  have h1 := h 1
  have h2 := h 2
  have h3 := h 3
  unfold get4
  omega
theorem four_eq {q : List Nat} (hq : q.length = 4) (hb : ∀ c ∈ q, c < 256) (v : Nat) (hv : v < 2 ^ 32) : q = four4 v ↔ get4 q = v := by
  match q, hq with
  | [a, b, c, d], _ =>
    have h0 := hb a (by simp)
    have h1 := hb b (by simp)
    have h2 := hb c (by simp)
    have h3 := hb d (by simp)
    simp only [four4, get4, List.getD_cons_zero, List.getD_cons_succ, List.cons.injEq, and_true]
    constructor
    · rintro ⟨rfl, rfl, rfl, rfl⟩; omega
    · intro h; omega
theorem get_step (s : ByteArray) (k i x : Nat) (hi : i < 4) (hs : 4 ≤ s.size) (hx : x < 2 ^ (8 * i)) :
    crc_get.l0 (k + 1) s (x : Int) (i : Int) = crc_get.l0 k s ((x + 2 ^ (8 * i) * (bl s).getD i 0 : Nat) : Int) ((i + 1 : Nat) : Int) := by
  have hb := bl_at_lt s i
  have e1 : IntKind.u64.wrap (wrap64 (8 * (i : Int))) = ((8 * i : Nat) : Int) := by
    have : wrap64 (8 * (i : Int)) = 8 * (i : Int) := by unfold wrap64; omega
    rw [this]
    simp [IntKind.wrap, IntKind.bits, IntKind.signed]
    omega
  have hp : 2 ^ (8 * i) * (bl s).getD i 0 < 2 ^ 32 := by
    have h1 : 2 ^ (8 * i) ≤ 2 ^ 24 := Nat.pow_le_pow_right (by omega) (by omega)
    calc 2 ^ (8 * i) * (bl s).getD i 0 ≤ 2 ^ 24 * (bl s).getD i 0 := Nat.mul_le_mul_right _ h1
      _ < 2 ^ 32 := by omega
  have hx32 : x < 2 ^ 32 := Nat.lt_of_lt_of_le hx (Nat.pow_le_pow_right (by omega) (by omega))
  have e2 : shl .u32 ((bt s (i : Int)) % 4294967296) ((8 * i : Nat) : Int) = ((2 ^ (8 * i) * (bl s).getD i 0 : Nat) : Int) := by
    rw [bt_bl s i (by omega), show (((bl s).getD i 0 : Nat) : Int) % 4294967296 = (((bl s).getD i 0 : Nat) : Int) by omega]
    unfold shl
    have hm : min (8 * i) IntKind.u32.bits = 8 * i := Nat.min_eq_left (by simp [IntKind.bits]; omega)
    rw [Int.toNat_natCast, hm, IntKind.wrap_u32]
    have hc : (((bl s).getD i 0 : Nat) : Int) * 2 ^ (8 * i) = ((2 ^ (8 * i) * (bl s).getD i 0 : Nat) : Int) := by
      rw [Int.natCast_mul, Int.mul_comm]; simp
    rw [hc]
    omega
  have e3 : wrap64 ((i : Int) + 1) = ((i + 1 : Nat) : Int) := by unfold wrap64; omega
  rw [crc_get.l0, if_pos (by omega), if_pos (by omega), if_pos (by omega), e1, if_pos (by omega), e2, e3, or32 _ _ hx32 hp, or_add _ _ _ hx]
theorem get_is (s : ByteArray) (hs : 4 ≤ s.size) (k : Nat) (hk : 5 ≤ k) : crc_get.f k s = some ((get4 (bl s) : Nat) : Int) := by
  obtain ⟨k, rfl⟩ : ∃ m, k = m + 5 := ⟨k - 5, by omega⟩
  have b0 := bl_at_lt s 0
  have b1 := bl_at_lt s 1
  have b2 := bl_at_lt s 2
  have b3 := bl_at_lt s 3
  have a0 := get_step s (k + 4) 0 0 (by omega) hs (by omega)
  have a1 := get_step s (k + 3) 1 (0 + 2 ^ (8 * 0) * (bl s).getD 0 0) (by omega) hs (by omega)
  have a2 := get_step s (k + 2) 2 (0 + 2 ^ (8 * 0) * (bl s).getD 0 0 + 2 ^ (8 * 1) * (bl s).getD 1 0) (by omega) hs (by omega)
  have a3 := get_step s (k + 1) 3 (0 + 2 ^ (8 * 0) * (bl s).getD 0 0 + 2 ^ (8 * 1) * (bl s).getD 1 0 + 2 ^ (8 * 2) * (bl s).getD 2 0) (by omega) hs (by omega)
  unfold crc_get.f
  show crc_get.l0 (k + 5) s ((0 : Nat) : Int) ((0 : Nat) : Int) = _
  rw [a0, a1, a2, a3, crc_get.l0, if_neg (by omega)]
  congr 2
  unfold get4
  omega

/-! ### What is cut out of bytes -/
theorem bl_extract (s : ByteArray) (a b : Nat) : bl (s.extract a b) = ((bl s).drop a).take (b - a) := by
  rw [bl, Lib.extract_data, bl, List.map_take, List.map_drop]
theorem bl_mk (l : List UInt8) : bl ⟨l.toArray⟩ = l.map UInt8.toNat := by simp [bl]
theorem bl_strOfNums (xs : List Nat) (h : ∀ c ∈ xs, c < 256) : bl (strOfNums (xs.map fun n : Nat => (n : Int))) = xs := by
  unfold strOfNums
  rw [bl_mk, List.map_map, List.map_map]
  conv => rhs; rw [← List.map_id xs]
  apply List.map_congr_left
  intro c hc
  have := h c hc
  simp [UInt8.toNat_ofNat]
  omega
theorem four4_lt (x : Nat) : ∀ c ∈ four4 x, c < 256 := by
  intro c hc
  simp [four4] at hc
  omega
theorem bl_four (x : Nat) : bl (strOfNums [(x : Int) % 256, (x : Int) / 256 % 256, (x : Int) / 65536 % 256, (x : Int) / 16777216 % 256]) = four4 x := by
  have := bl_strOfNums (four4 x) (four4_lt x)
  simpa [four4] using this
theorem size_bl {s : ByteArray} {l : List Nat} (h : bl s = l) : s.size = l.length := by rw [← h, bl_length]
theorem toList_eq_iff (s t : ByteArray) : s.toList = t.toList ↔ bl s = bl t := by
  rw [Lib.toList_data, Lib.toList_data]
  constructor
  · intro h; rw [bl, h, bl]
  · intro h; rw [bl_inj h]

def noB : ByteArray := ⟨#[]⟩
def cutR (s : ByteArray) : ByteArray × ByteArray × Int :=
  if s.size < 8 then (noB, noB, 7)
  else if 4096 < get4 (bl s) then (noB, noB, 4)
  else if s.size < 8 + get4 (bl s) then (noB, noB, 7)
  else if moreN 0 ((bl s).take 4 ++ ((bl s).drop 8).take (get4 (bl s))) = get4 ((bl s).drop 4) then (s.extract 8 (8 + get4 (bl s)), s.extract (8 + get4 (bl s)) s.size, 0)
  else (noB, noB, 220)
theorem cut_is (s : ByteArray) (hs : s.size ≤ 1152921504606846976) (k : Nat) (hk : s.size + 20 ≤ k) : crc_Cut.f k s = some (cutR s) := by
  unfold crc_Cut.f cutR
  by_cases h1 : s.size < 8
  · rw [if_pos (by omega), if_pos h1]; rfl
  rw [if_neg (by omega), if_neg h1, get_is s (by omega) k (by omega)]
  simp only [Option.bind_some]
  have hg := get4_lt s 0
  rw [List.drop_zero] at hg
  generalize hge : get4 (bl s) = g at hg
  by_cases h2 : 4096 < g
  · rw [if_pos (by omega), if_pos h2]; rfl
  rw [if_neg (by omega), if_neg h2]
  have w1 : wrap64 ((s.size : Int) - 8) = (s.size : Int) - 8 := by unfold wrap64; omega
  have w2 : wrap64 (g : Int) = (g : Int) := by unfold wrap64; omega
  have w3 : (8 + (g : Int)) % 4294967296 = ((8 + g : Nat) : Int) := by omega
  rw [w1, w2, w3]
  by_cases h3 : s.size < 8 + g
  · rw [if_pos (by omega), if_pos h3]; rfl
  rw [if_neg (by omega), if_neg h3, if_pos (by omega), if_pos (by omega), if_pos (by omega), if_pos (by omega), if_pos (by omega), Int.toNat_natCast]
  have z1 : (s.extract 0 4).size = 4 := by rw [size_bl (bl_extract s 0 4)]; simp [bl_length]; omega
  have z2 : (s.extract 8 (8 + g)).size = g := by rw [size_bl (bl_extract s 8 (8 + g))]; simp [bl_length]; omega
  have z3 : (s.extract 4 s.size).size = s.size - 4 := by rw [size_bl (bl_extract s 4 s.size)]; simp [bl_length]
  have hl : ∀ c ∈ (bl s).take 4, c < 256 := fun c hc => bl_lt s c (List.mem_of_mem_take hc)
  rw [of_nat _ (by omega) k (by omega)]
  simp only [Option.bind_some]
  rw [bl_extract, more_nat _ _ (moreN_lt _ _ (by omega) (by simpa using hl)) (by omega) k (by omega)]
  simp only [Option.bind_some]
  rw [get_is _ (by omega) k (by omega), bl_extract, bl_extract]
  simp only [Option.bind_some, List.drop_zero, Nat.sub_zero]
  rw [← moreN_append, show 8 + g - 8 = g by omega, List.take_of_length_le (l := (bl s).drop 4) (by simp [bl_length])]
  by_cases h4 : moreN 0 ((bl s).take 4 ++ ((bl s).drop 8).take g) = get4 ((bl s).drop 4)
  · rw [if_pos (by omega), if_pos h4]
  · rw [if_neg (by omega), if_neg h4]; rfl
theorem wrap_nat (n : Nat) (h : n < 4611686018427387904) : wrap64 (n : Int) = (n : Int) := by unfold wrap64; omega
set_option maxHeartbeats 1000000 in
theorem refcut_is (s : ByteArray) (hs : s.size ≤ 1152921504606846976) (k : Nat) (hk : s.size + 20 ≤ k) : portcullisref22_Cut.f k s = some (cutR s) := by
  unfold portcullisref22_Cut.f cutR
  by_cases h1 : s.size < 8
  · rw [if_pos (by omega), if_pos h1]; rfl
  have hg := get4_lt s 0
  rw [List.drop_zero] at hg
  have b0 := bt_bl s 0 (by omega)
  have b1 := bt_bl s 1 (by omega)
  have b2 := bt_bl s 2 (by omega)
  have b3 := bt_bl s 3 (by omega)
  have l0 := bl_at_lt s 0
  have l1 := bl_at_lt s 1
  have l2 := bl_at_lt s 2
  have l3 := bl_at_lt s 3
  have e : wrap64 (wrap64 (wrap64 (wrap64 (bt s 0) + wrap64 (wrap64 (bt s 1) * 256)) + wrap64 (wrap64 (bt s 2) * 65536)) + wrap64 (wrap64 (bt s 3) * 16777216)) = ((get4 (bl s) : Nat) : Int) := by
    rw [show bt s 0 = _ from b0, show bt s 1 = _ from b1, show bt s 2 = _ from b2, show bt s 3 = _ from b3]
    unfold get4
    generalize (bl s).getD 0 0 = y0 at l0
    generalize (bl s).getD 1 0 = y1 at l1
    generalize (bl s).getD 2 0 = y2 at l2
    generalize (bl s).getD 3 0 = y3 at l3
    rw [wrap_nat y0 (by omega), wrap_nat y1 (by omega), wrap_nat y2 (by omega), wrap_nat y3 (by omega)]
    rw [show (y1 : Int) * 256 = ((y1 * 256 : Nat) : Int) by omega, show (y2 : Int) * 65536 = ((y2 * 65536 : Nat) : Int) by omega, show (y3 : Int) * 16777216 = ((y3 * 16777216 : Nat) : Int) by omega]
    rw [wrap_nat _ (show y1 * 256 < 4611686018427387904 by omega), wrap_nat _ (show y2 * 65536 < 4611686018427387904 by omega), wrap_nat _ (show y3 * 16777216 < 4611686018427387904 by omega)]
    rw [← Int.natCast_add, wrap_nat _ (show y0 + y1 * 256 < 4611686018427387904 by omega), ← Int.natCast_add, wrap_nat _ (show y0 + y1 * 256 + y2 * 65536 < 4611686018427387904 by omega), ← Int.natCast_add, wrap_nat _ (show y0 + y1 * 256 + y2 * 65536 + y3 * 16777216 < 4611686018427387904 by omega)]
    congr 1
    omega
  rw [e]
  clear e b0 b1 b2 b3 l0 l1 l2 l3
  rw [if_neg (by omega), if_neg h1, if_pos (by omega), if_pos (by omega), if_pos (by omega), if_pos (by omega)]
  generalize hge : get4 (bl s) = g at hg
  by_cases h2 : 4096 < g
  · rw [if_pos (by omega), if_pos h2]; rfl
  rw [if_neg (by omega), if_neg h2]
  have w3 : wrap64 (8 + (g : Int)) = ((8 + g : Nat) : Int) := by unfold wrap64; omega
  rw [w3]
  by_cases h3 : s.size < 8 + g
  · rw [if_pos (by omega), if_pos h3]; rfl
  rw [if_neg (by omega), if_neg h3, if_pos (by omega), if_pos (by omega), if_pos (by omega), if_pos (by omega), if_pos (by omega), if_pos (by omega), Int.toNat_natCast]
  have z1 : (s.extract 0 4).size = 4 := by rw [size_bl (bl_extract s 0 4)]; simp [bl_length]; omega
  have z2 : (s.extract 8 (8 + g)).size = g := by rw [size_bl (bl_extract s 8 (8 + g))]; simp [bl_length]; omega
  have zz : (s.extract 0 4 ++ s.extract 8 (8 + g)).size = 4 + g := by rw [size_bl (bl_append _ _), List.length_append, bl_length, bl_length, z1, z2]
  have hl : ∀ c ∈ bl (s.extract 0 4 ++ s.extract 8 (8 + g)), c < 256 := bl_lt _
  have hv := moreN_lt 0 (bl (s.extract 0 4 ++ s.extract 8 (8 + g))) (by omega) hl
  rw [if_pos (by omega), ref_of _ (by omega) k (by omega)]
  simp only [Option.bind_some]
  unfold portcullisref22_four.f
  simp only [Option.bind_some]
  have hq : (bl (s.extract 4 8)).length = 4 := by rw [bl_extract]; simp [bl_length]; omega
  have key : (s.extract 4 8).toList = (strOfNums [(moreN 0 (bl (s.extract 0 4 ++ s.extract 8 (8 + g))) : Int) % 256, (moreN 0 (bl (s.extract 0 4 ++ s.extract 8 (8 + g))) : Int) / 256 % 256, (moreN 0 (bl (s.extract 0 4 ++ s.extract 8 (8 + g))) : Int) / 65536 % 256, (moreN 0 (bl (s.extract 0 4 ++ s.extract 8 (8 + g))) : Int) / 16777216 % 256]).toList ↔
      moreN 0 ((bl s).take 4 ++ ((bl s).drop 8).take g) = get4 ((bl s).drop 4) := by
    rw [toList_eq_iff, bl_four, four_eq hq (bl_lt _) _ hv, bl_append, bl_extract, bl_extract, bl_extract]
    simp only [List.drop_zero, Nat.sub_zero, show 8 + g - 8 = g by omega]
    have hd : get4 (((bl s).drop 4).take (8 - 4)) = get4 ((bl s).drop 4) := by
      simp [get4, List.getD_eq_getElem?_getD, List.getElem?_take]
    rw [hd]
    exact eq_comm
  by_cases h4 : moreN 0 ((bl s).take 4 ++ ((bl s).drop 8).take g) = get4 ((bl s).drop 4)
  · rw [if_pos (key.2 h4), if_pos (by omega), if_pos h4]
  · rw [if_neg (fun h => h4 (key.1 h)), if_neg h4]; rfl

/-! ### Frames -/
def crcOf (s : ByteArray) : Nat := moreN 0 (four4 s.size ++ bl s)
theorem frame_bl (s : ByteArray) (hs : s.size ≤ 4096) : bl (strOfNums (frameL s)) = four4 s.size ++ four4 (crcOf s) ++ bl s := by
  have e1 : fourN (s.size : Int) = (four4 s.size).map fun n : Nat => (n : Int) := by simp [fourN, four4]
  have e2 : moreF (moreF 0 (strOfNums (fourN (s.size : Int)))) s = ((crcOf s : Nat) : Int) := by
    have hm : moreF 0 (strOfNums (fourN (s.size : Int))) = ((moreN 0 (four4 s.size) : Nat) : Int) := by
      have := moreF_nat 0 (strOfNums (fourN (s.size : Int))) (by omega)
      rw [e1, bl_strOfNums _ (four4_lt _)] at this
      rw [e1]
      exact this
    rw [hm, moreF_nat _ _ (moreN_lt _ _ (by omega) (four4_lt _)), crcOf, moreN_append]
  have e3 : fourN ((crcOf s : Nat) : Int) = (four4 (crcOf s)).map fun n : Nat => (n : Int) := by simp [fourN, four4]
  unfold frameL
  rw [e2, e1, e3, bytesOf_bl, ← List.map_append, ← List.map_append]
  exact bl_strOfNums _ (fun c hc => by
    simp only [List.mem_append] at hc
    rcases hc with (hc | hc) | hc
    · exact four4_lt _ c hc
    · exact four4_lt _ c hc
    · exact bl_lt s c hc)
theorem crcOf_lt (s : ByteArray) : crcOf s < 2 ^ 32 := moreN_lt _ _ (by omega) (fun c hc => by
  rcases List.mem_append.1 hc with hc | hc
  · exact four4_lt _ c hc
  · exact bl_lt s c hc)
theorem refframe_is (s : ByteArray) (hs : s.size ≤ 140737488351232) (k : Nat) (hk : s.size + 20 ≤ k) : portcullisref22_Frame.f k s = crc_Frame.f s := by
  unfold portcullisref22_Frame.f crc_Frame.f
  by_cases h1 : 4096 < s.size
  · rw [if_pos (by omega), if_pos h1]
  rw [if_neg (by omega), if_neg h1]
  unfold portcullisref22_four.f
  simp only [Option.bind_some]
  have e0 : ((s.size : Int)) % 4294967296 = ((s.size : Nat) : Int) := by omega
  rw [e0]
  have hb := bl_four s.size
  generalize hA : strOfNums [((s.size : Nat) : Int) % 256, ((s.size : Nat) : Int) / 256 % 256, ((s.size : Nat) : Int) / 65536 % 256, ((s.size : Nat) : Int) / 16777216 % 256] = A at hb
  have zA : A.size = 4 := by rw [size_bl hb]; rfl
  have zs : (A ++ s).size = 4 + s.size := by rw [size_bl (bl_append _ _), List.length_append, bl_length, bl_length, zA]
  have ho := ref_of (A ++ s) (by omega) k (by omega)
  rw [bl_append, hb] at ho
  rw [if_pos (by omega), ho]
  simp only [Option.bind_some]
  have hc := bl_four (crcOf s)
  change bl (strOfNums [((moreN 0 (four4 s.size ++ bl s) : Nat) : Int) % 256, ((moreN 0 (four4 s.size ++ bl s) : Nat) : Int) / 256 % 256, ((moreN 0 (four4 s.size ++ bl s) : Nat) : Int) / 65536 % 256, ((moreN 0 (four4 s.size ++ bl s) : Nat) : Int) / 16777216 % 256]) = four4 (crcOf s) at hc
  generalize strOfNums [((moreN 0 (four4 s.size ++ bl s) : Nat) : Int) % 256, ((moreN 0 (four4 s.size ++ bl s) : Nat) : Int) / 256 % 256, ((moreN 0 (four4 s.size ++ bl s) : Nat) : Int) / 65536 % 256, ((moreN 0 (four4 s.size ++ bl s) : Nat) : Int) / 16777216 % 256] = B at hc
  have zB : B.size = 4 := by rw [size_bl hc]; rfl
  have zAB : (A ++ B).size = 8 := by rw [size_bl (bl_append _ _), List.length_append, bl_length, bl_length, zA, zB]
  rw [if_pos (by omega), if_pos (by omega)]
  congr 2
  apply bl_inj
  rw [frame_bl s (by omega), bl_append, bl_append, hb, hc]
/-- Cut of Frame, whatever stands behind it. -/
theorem cut_frame (s t : ByteArray) (hs : s.size ≤ 4096) : cutR (strOfNums (frameL s) ++ t) = (s, t, 0) := by
  have hb : bl (strOfNums (frameL s) ++ t) = four4 s.size ++ four4 (crcOf s) ++ bl s ++ bl t := by rw [bl_append, frame_bl s hs]
  have l4 : ∀ x, (four4 x).length = 4 := fun _ => rfl
  have hz : (strOfNums (frameL s) ++ t).size = 8 + s.size + t.size := by rw [size_bl hb]; simp [l4, bl_length]; omega
  have g1 : get4 (bl (strOfNums (frameL s) ++ t)) = s.size := by rw [hb, List.append_assoc, List.append_assoc, get_four _ (by omega)]
  have d4 : (bl (strOfNums (frameL s) ++ t)).drop 4 = four4 (crcOf s) ++ (bl s ++ bl t) := by
    rw [hb, List.append_assoc, List.append_assoc, List.drop_append_of_le_length (by rw [l4]; omega), List.drop_of_length_le (by rw [l4]; omega)]; rfl
  have d8 : (bl (strOfNums (frameL s) ++ t)).drop 8 = bl s ++ bl t := by
    rw [show 8 = 4 + 4 from rfl, ← List.drop_drop, d4, List.drop_append_of_le_length (by rw [l4]; omega), List.drop_of_length_le (by rw [l4]; omega)]; rfl
  have t4 : (bl (strOfNums (frameL s) ++ t)).take 4 = four4 s.size := by
    rw [hb, List.append_assoc, List.append_assoc, List.take_append_of_le_length (by rw [l4]; omega), List.take_of_length_le (by rw [l4]; omega)]
  have t8 : ((bl (strOfNums (frameL s) ++ t)).drop 8).take s.size = bl s := by
    rw [d8, List.take_append_of_le_length (by rw [bl_length]; omega), List.take_of_length_le (by rw [bl_length]; omega)]
  unfold cutR
  rw [g1, t4, t8, d4, get_four _ (crcOf_lt s), if_neg (by omega), if_neg (by omega), if_neg (by omega), if_pos (show moreN 0 (four4 s.size ++ bl s) = crcOf s from rfl)]
  have x1 : (strOfNums (frameL s) ++ t).extract 8 (8 + s.size) = s := by
    apply bl_inj
    rw [bl_extract, show 8 + s.size - 8 = s.size by omega, t8]
  have x2 : (strOfNums (frameL s) ++ t).extract (8 + s.size) (strOfNums (frameL s) ++ t).size = t := by
    apply bl_inj
    rw [bl_extract, hz, ← List.drop_drop, d8, List.drop_append_of_le_length (by rw [bl_length]; omega), List.drop_of_length_le (l := bl s) (by rw [bl_length]; omega), List.nil_append, List.take_of_length_le (by rw [bl_length]; omega)]
  rw [x1, x2]
end Go.Proofs.Ytbeffjdplelojaa.Pr
