import Derived.Test.YtbeffjdplelojaaBmath
import Derived.Lib.Strings
namespace Go.Proofs.Ytbeffjdplelojaa.Pr
open Go.RowKit Go.Proofs.YtbeffjdplelojaaW.PrintWords Go.Proofs.YtbeffjdplelojaaW.PrintLast Go.Proofs.YtbeffjdplelojaaW.PrintMore
set_option linter.unusedVariables false
set_option linter.unusedSimpArgs false

/-! ### Sums over lists of natural numbers -/
def bl (s : ByteArray) : List Nat := s.data.toList.map UInt8.toNat
theorem bl_length (s : ByteArray) : (bl s).length = s.size := by rw [bl, List.length_map, data_length]
theorem bytesOf_bl (s : ByteArray) : bytesOf s = (bl s).map fun n : Nat => (n : Int) := by simp [bytesOf, bl]
theorem bl_lt (s : ByteArray) : ∀ c ∈ bl s, c < 256 := by
  intro c hc
  obtain ⟨u, _, rfl⟩ := List.mem_map.1 hc
  exact u.toNat_lt
theorem bl_append (s t : ByteArray) : bl (s ++ t) = bl s ++ bl t := by simp [bl, ByteArray.data_append]
theorem bl_inj {s t : ByteArray} (h : bl s = bl t) : s = t := by
  have : s.data.toList = t.data.toList := by
    exact (List.map_inj_right (fun a b h => UInt8.toNat_inj.1 h)).1 h
  cases s with | mk a => cases t with | mk b =>
  have : a = b := Array.toList_inj.1 this
  rw [this]
def goN (l : List Nat) (r : Nat) : Nat := l.foldl (fun r c => N8 (r ^^^ c)) r
theorem goN_lt (l : List Nat) : ∀ (r : Nat), (∀ c ∈ l, c < 256) → r < 2 ^ 32 → goN l r < 2 ^ 32 := by
  induction l with
  | nil => intro r _ h; exact h
  | cons c l ih => intro r hc hr; exact ih _ (fun x hx => hc x (by simp [hx])) (N8_lt (Nat.xor_lt_two_pow hr (by have := hc c (by simp); omega)))
theorem crcGo_nat (l : List Nat) : ∀ (r : Nat), (∀ c ∈ l, c < 256) → r < 2 ^ 32 → crcGo (l.map fun n : Nat => (n : Int)) (r : Int) = (goN l r : Nat) := by
  induction l with
  | nil => intro r _ _; rfl
  | cons c l ih =>
    intro r hc hr
    have h1 := hc c (by simp)
    have hx : r ^^^ c < 2 ^ 32 := Nat.xor_lt_two_pow hr (by omega)
    have e : st8 (Go.bits .xor .u32 (r : Int) ((c : Int) % 4294967296)) = (N8 (r ^^^ c) : Nat) := by
      rw [show (c : Int) % 4294967296 = (c : Int) by omega, xor32 r c hr (by omega), st8_nat _ hx]
    show crcGo (l.map fun n : Nat => (n : Int)) (st8 (Go.bits .xor .u32 (r : Int) ((c : Int) % 4294967296))) = _
    rw [e, ih _ (fun x hx => hc x (by simp [hx])) (N8_lt hx)]
    rfl
def moreN (a : Nat) (l : List Nat) : Nat := 4294967295 ^^^ goN l (4294967295 ^^^ a)
theorem maxu : IntKind.u32.max = ((4294967295 : Nat) : Int) := by decide
theorem moreN_lt (a : Nat) (l : List Nat) (ha : a < 2 ^ 32) (hl : ∀ c ∈ l, c < 256) : moreN a l < 2 ^ 32 :=
  Nat.xor_lt_two_pow (by omega) (goN_lt l _ hl (Nat.xor_lt_two_pow (by omega) ha))
theorem moreF_nat (a : Nat) (s : ByteArray) (ha : a < 2 ^ 32) : moreF (a : Int) s = (moreN a (bl s) : Nat) := by
  have hx : 4294967295 ^^^ a < 2 ^ 32 := Nat.xor_lt_two_pow (by omega) ha
  unfold moreF
  rw [maxu, xor32 _ _ (by omega) ha, bytesOf_bl, crcGo_nat _ _ (bl_lt s) hx, xor32 _ _ (by omega) (goN_lt _ _ (bl_lt s) hx)]
  rfl
theorem goN_append (l m : List Nat) (r : Nat) : goN (l ++ m) r = goN m (goN l r) := by simp [goN]
theorem goN_xor (l : List Nat) : ∀ (x y : Nat), goN l (x ^^^ y) = goN l x ^^^ iter N8 l.length y := by
  induction l with
  | nil => intro x y; rfl
  | cons c l ih =>
    intro x y
    show goN l (N8 (x ^^^ y ^^^ c)) = goN l (N8 (x ^^^ c)) ^^^ iter N8 l.length (N8 y)
    rw [← ih, ← N8_xor]
    congr 2
    rw [Nat.xor_assoc, Nat.xor_assoc, Nat.xor_comm y c]
theorem xor_self_left (a b : Nat) : a ^^^ (a ^^^ b) = b := by rw [← Nat.xor_assoc, Nat.xor_self, Nat.zero_xor]
theorem moreN_append (a : Nat) (l m : List Nat) : moreN a (l ++ m) = moreN (moreN a l) m := by
  unfold moreN
  rw [goN_append, xor_self_left]
theorem joinN (l m : List Nat) : iter N8 m.length (moreN 0 l) ^^^ moreN 0 m = moreN 0 (l ++ m) := by
  rw [moreN_append]
  have h := goN_xor m 4294967295 (moreN 0 l)
  show _ ^^^ moreN 0 m = 4294967295 ^^^ goN m (4294967295 ^^^ moreN 0 l)
  rw [h]
  show _ ^^^ (4294967295 ^^^ goN m (4294967295 ^^^ 0)) = _
  rw [Nat.xor_zero]
  generalize iter N8 m.length (moreN 0 l) = p
  generalize goN m 4294967295 = q
  rw [← Nat.xor_assoc, Nat.xor_comm p, Nat.xor_assoc, Nat.xor_comm p]

/-! ### The code's functions -/
theorem more_nat (a : Nat) (s : ByteArray) (ha : a < 2 ^ 32) (hs : s.size ≤ 4611686018427387904) (k : Nat) (hk : s.size + 10 ≤ k) : crc_More.f k (a : Int) s = some ((moreN a (bl s) : Nat) : Int) := by
  rw [more_is _ s hs k hk, moreF_nat a s ha]
theorem of_nat (s : ByteArray) (hs : s.size ≤ 4611686018427387904) (k : Nat) (hk : s.size + 10 ≤ k) : crc_Of.f k s = some ((moreN 0 (bl s) : Nat) : Int) := by
  rw [of_is s hs k hk]
  exact congrArg some (moreF_nat 0 s (by omega))
/-! the document's -/
theorem ref_st1 (x : Nat) (h : x < 2 ^ 32) : (if Go.bits .and .u32 (x : Int) 1 = 1 then Go.bits .xor .u32 ((x : Int) / 2) 3988292384 else (x : Int) / 2) = (N1 x : Nat) := by
  have h1 : Go.bits .and .u32 (x : Int) 1 = ((x % 2 : Nat) : Int) := by
    have := and32 x 1 h (by omega)
    rw [Nat.and_one_is_mod] at this
    exact this
  have h2 : ((x : Int) / 2) = ((x / 2 : Nat) : Int) := by omega
  rw [h1, h2]
  unfold N1
  by_cases hb : x % 2 = 1
  · rw [if_pos (by omega), if_pos hb]
    exact xor32 _ 3988292384 (by omega) (by omega)
  · rw [if_neg (by omega), if_neg hb, Nat.xor_zero]
theorem ref_l0 (k : Nat) (x : Nat) (i : Nat) (h : x < 2 ^ 32) (hi : i < 8) : portcullisref22_step.l0 (k + 1) (x : Int) (i : Int) = portcullisref22_step.l0 k ((N1 x : Nat) : Int) ((i + 1 : Nat) : Int) := by
  have hw : wrap64 ((i : Int) + 1) = ((i + 1 : Nat) : Int) := by unfold wrap64; omega
  rw [portcullisref22_step.l0, if_pos (by omega), hw, ← ref_st1 x h]
  split <;> rfl
theorem ref_step (k r c : Nat) (hr : r < 2 ^ 32) (hc : c < 256) (hk : 9 ≤ k) : portcullisref22_step.f k (r : Int) (c : Int) = some ((N8 (r ^^^ c) : Nat) : Int) := by
  obtain ⟨k, rfl⟩ : ∃ m, k = m + 9 := ⟨k - 9, by omega⟩
  have hx : r ^^^ c < 2 ^ 32 := Nat.xor_lt_two_pow hr (by omega)
  unfold portcullisref22_step.f
  rw [show (c : Int) % 4294967296 = (c : Int) by omega, xor32 r c hr (by omega)]
  generalize r ^^^ c = x at hx
  have a0 := ref_l0 (k + 8) x 0 hx (by omega)
  have h1 := N1_lt hx
  have a1 := ref_l0 (k + 7) _ 1 h1 (by omega)
  have h2 := N1_lt h1
  have a2 := ref_l0 (k + 6) _ 2 h2 (by omega)
  have h3 := N1_lt h2
  have a3 := ref_l0 (k + 5) _ 3 h3 (by omega)
  have h4 := N1_lt h3
  have a4 := ref_l0 (k + 4) _ 4 h4 (by omega)
  have h5 := N1_lt h4
  have a5 := ref_l0 (k + 3) _ 5 h5 (by omega)
  have h6 := N1_lt h5
  have a6 := ref_l0 (k + 2) _ 6 h6 (by omega)
  have h7 := N1_lt h6
  have a7 := ref_l0 (k + 1) _ 7 h7 (by omega)
  show portcullisref22_step.l0 (k + 9) (x : Int) ((0 : Nat) : Int) = _
  rw [a0, a1, a2, a3, a4, a5, a6, a7, portcullisref22_step.l0, if_neg (by omega)]
  rfl
theorem bt_bl (s : ByteArray) (i : Nat) (h : i < s.size) : bt s (i : Int) = ((bl s).getD i 0 : Nat) := by
  have hl : i < s.data.toList.length := by rw [data_length]; exact h
  simp [bt, h, bl, List.getD_eq_getElem?_getD, List.getElem?_eq_getElem hl]
  rfl
theorem bl_drop (s : ByteArray) (i : Nat) (h : i < s.size) : (bl s).drop i = (bl s).getD i 0 :: (bl s).drop (i + 1) := by
  have hl : i < (bl s).length := by rw [bl_length]; exact h
  rw [List.drop_eq_getElem_cons hl]
  simp [List.getD_eq_getElem?_getD, List.getElem?_eq_getElem hl]
theorem bl_at_lt (s : ByteArray) (i : Nat) : (bl s).getD i 0 < 256 := by
  rw [List.getD_eq_getElem?_getD]
  by_cases h : i < (bl s).length
  · rw [List.getElem?_eq_getElem h]
    exact bl_lt s _ (List.getElem_mem h)
  · rw [List.getElem?_eq_none (by omega)]
    simp
theorem ref_more_loop (s : ByteArray) (hs : s.size ≤ 4611686018427387904) (d : Nat) : ∀ (k i r : Nat), i + d = s.size → d + 10 ≤ k → r < 2 ^ 32 →
    portcullisref22_More.l0 k s (r : Int) (i : Int) = some ((4294967295 ^^^ goN ((bl s).drop i) r : Nat) : Int) := by
  induction d with
  | zero =>
    intro k i r hi hk hr
    obtain ⟨k, rfl⟩ : ∃ m, k = m + 1 := ⟨k - 1, by omega⟩
    rw [portcullisref22_More.l0, if_neg (by omega), List.drop_of_length_le (by rw [bl_length]; omega), maxu, xor32 _ _ (by omega) hr]
    rfl
  | succ d ih =>
    intro k i r hi hk hr
    obtain ⟨k, rfl⟩ : ∃ m, k = m + 1 := ⟨k - 1, by omega⟩
    have hc := bl_at_lt s i
    rw [portcullisref22_More.l0, if_pos (by omega), if_pos (by omega), bt_bl s i (by omega), ref_step k r _ hr hc (by omega)]
    simp only [Option.bind_some]
    have e : wrap64 ((i : Int) + 1) = ((i + 1 : Nat) : Int) := by unfold wrap64; omega
    rw [e, ih k (i + 1) _ (by omega) (by omega) (N8_lt (Nat.xor_lt_two_pow hr (by omega))), bl_drop s i (by omega)]
    rfl
theorem ref_more (a : Nat) (s : ByteArray) (ha : a < 2 ^ 32) (hs : s.size ≤ 4611686018427387904) (k : Nat) (hk : s.size + 10 ≤ k) : portcullisref22_More.f k (a : Int) s = some ((moreN a (bl s) : Nat) : Int) := by
  unfold portcullisref22_More.f
  rw [maxu, xor32 _ _ (by omega) ha]
  exact ref_more_loop s hs s.size k 0 _ (by omega) (by omega) (Nat.xor_lt_two_pow (by omega) ha)
theorem ref_of (s : ByteArray) (hs : s.size ≤ 4611686018427387904) (k : Nat) (hk : s.size + 10 ≤ k) : portcullisref22_Of.f k s = some ((moreN 0 (bl s) : Nat) : Int) := by
  unfold portcullisref22_Of.f
  have := ref_more 0 s (by omega) hs k hk
  rw [show ((0 : Nat) : Int) = 0 from rfl] at this
  rw [this]
  rfl
theorem ref_noughts_loop (n : Nat) (hn : n ≤ 4611686018427387904) (d : Nat) : ∀ (k i r : Nat), i + d = n → d + 10 ≤ k → r < 2 ^ 32 →
    portcullisref22_Noughts.l0 k (n : Int) (r : Int) (i : Int) = some ((4294967295 ^^^ iter N8 d r : Nat) : Int) := by
  induction d with
  | zero =>
    intro k i r hi hk hr
    obtain ⟨k, rfl⟩ : ∃ m, k = m + 1 := ⟨k - 1, by omega⟩
    rw [portcullisref22_Noughts.l0, if_neg (by omega), maxu, xor32 _ _ (by omega) hr]
    rfl
  | succ d ih =>
    intro k i r hi hk hr
    obtain ⟨k, rfl⟩ : ∃ m, k = m + 1 := ⟨k - 1, by omega⟩
    have hst := ref_step k r 0 hr (by omega) (by omega)
    rw [Nat.xor_zero, show ((0 : Nat) : Int) = 0 from rfl] at hst
    rw [portcullisref22_Noughts.l0, if_pos (by omega), hst]
    simp only [Option.bind_some]
    have e : wrap64 ((i : Int) + 1) = ((i + 1 : Nat) : Int) := by unfold wrap64; omega
    rw [e, ih k (i + 1) _ (by omega) (by omega) (N8_lt hr)]
    rfl
theorem ref_noughts (a n : Nat) (ha : a < 2 ^ 32) (hn : n ≤ 4611686018427387904) (k : Nat) (hk : n + 10 ≤ k) : portcullisref22_Noughts.f k (a : Int) (n : Int) = some ((4294967295 ^^^ iter N8 n (4294967295 ^^^ a) : Nat) : Int) := by
  unfold portcullisref22_Noughts.f
  rw [maxu, xor32 _ _ (by omega) ha]
  exact ref_noughts_loop n hn n k 0 _ (by omega) (by omega) (Nat.xor_lt_two_pow (by omega) ha)
theorem ref_joined (a b n : Nat) (ha : a < 2 ^ 32) (hb : b < 2 ^ 32) (hn : n ≤ 4611686018427387904) (k : Nat) (hk : n + 10 ≤ k) : portcullisref22_Joined.f k (a : Int) (b : Int) (n : Int) = some ((iter N8 n a ^^^ b : Nat) : Int) := by
  have hL := iter_lin N8_lin n
  have hz := ref_noughts 0 n (by omega) hn k hk
  rw [Nat.xor_zero, show ((0 : Nat) : Int) = 0 from rfl] at hz
  unfold portcullisref22_Joined.f
  rw [ref_noughts a n ha hn k hk, hz]
  simp only [Option.bind_some]
  have h1 := hL.lt (4294967295 ^^^ a) (Nat.xor_lt_two_pow (by omega) ha)
  have h2 := hL.lt 4294967295 (by omega)
  have h3 : 4294967295 ^^^ iter N8 n (4294967295 ^^^ a) < 2 ^ 32 := Nat.xor_lt_two_pow (by omega) h1
  have h4 : 4294967295 ^^^ iter N8 n 4294967295 < 2 ^ 32 := Nat.xor_lt_two_pow (by omega) h2
  rw [xor32 _ _ h3 h4, xor32 _ _ (Nat.xor_lt_two_pow h3 h4) hb, hL.add]
  congr 4
  generalize iter N8 n 4294967295 = p
  generalize iter N8 n a = q
  rw [Nat.xor_assoc 4294967295, Nat.xor_comm (p ^^^ q), Nat.xor_assoc 4294967295 p, xor_self_left, xor_self_left]
end Go.Proofs.Ytbeffjdplelojaa.Pr
