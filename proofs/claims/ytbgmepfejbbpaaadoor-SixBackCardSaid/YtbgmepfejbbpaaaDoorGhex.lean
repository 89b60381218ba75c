import Derived.Test.YtbgmepfejbbpaaaDoorGpce
namespace Go.Proofs.YtbgmepfejbbpaaaDoor.Pr
open Go.RowKit Go.Proofs.YtbgmepfejbbpaaaDoorW.PrintWords Go.Proofs.YtbgmepfejbbpaaaDoorW.PrintLast Go.Proofs.YtbgmepfejbbpaaaDoorW.PrintMore
set_option linter.unusedVariables false
set_option linter.unusedSimpArgs false

/-! ### What the law's hex and ten write -/
theorem hexF_map : ∀ (s : List UInt8) (v : Nat), hexF s v = (hexF s 0).map (fun a => v * 16 ^ s.length + a)
  | [], v => by simp [hexF]
  | c :: l, v => by
    unfold hexF
    cases hexv c with
    | none => rfl
    | some d =>
      simp only
      rw [hexF_map l (v * 16 + d), hexF_map l (0 * 16 + d)]
      cases hexF l 0 with
      | none => rfl
      | some z =>
        simp only [Option.map_some, List.length_cons, Nat.pow_succ, Nat.zero_mul, Nat.zero_add]
        congr 1
        rw [Nat.add_mul, Nat.mul_assoc, Nat.mul_comm 16, Nat.add_assoc]
theorem hexF_val (s : List UInt8) (v a : Nat) (h : hexF s 0 = some a) : hexF s v = some (v * 16 ^ s.length + a) := by
  rw [hexF_map, h]; rfl
def upS : List UInt8 := [48, 49, 50, 51, 52, 53, 54, 55, 56, 57, 65, 66, 67, 68, 69, 70]
/-- A table of digits. -/
def Tab (T : List UInt8) : Prop := T.length = 16 ∧ ∀ d, d < 16 → hexv (T.getD d 0) = some d
theorem tab_low : Tab hexS := ⟨rfl, fun d hd => (hexc_v d hd).1⟩
theorem tab_up_all : ((List.range 16).all fun d => decide (hexv (upS.getD d 0) = some d)) = true := by decide +kernel
theorem tab_up : Tab upS := ⟨rfl, fun d hd => of_decide_eq_true (List.all_eq_true.1 tab_up_all d (List.mem_range.2 hd))⟩
theorem tab_ext {T : List UInt8} (h : Tab T) (d : Nat) (hd : d < 16) : (mkB T).extract d (d + 1) = mkB [T.getD d 0] := by
  have hl : d < T.length := by rw [h.1]; exact hd
  rw [ext_mkB, List.drop_eq_getElem_cons hl, show d + 1 - d = 1 by omega, List.take_succ_cons, List.take_zero, List.getD_eq_getElem?_getD, List.getElem?_eq_getElem hl]
  rfl
structure GoodP (t : List UInt8) (N : Nat) : Prop where
  v : hexF t 0 = some N
  ne : t ≠ []
  le : t.length ≤ 4
  co : 58 ∉ t
  dt : 46 ∉ t
theorem hexnums (n : Nat) (hn : n < 65536) : Int.tmod (n : Int) 16 = ((n % 16 : Nat) : Int) ∧ Int.tdiv (n : Int) 16 = ((n / 16 : Nat) : Int) ∧ IntKind.u16.wrap (((n % 16 : Nat) : Int) + 1) = ((n % 16 + 1 : Nat) : Int) ∧ IntKind.u16.wrap ((n / 16 : Nat) : Int) = ((n / 16 : Nat) : Int) := by
  refine ⟨by rw [Int.tmod_eq_emod_of_nonneg (by omega)]; omega, by rw [Int.tdiv_eq_ediv_of_nonneg (by omega)]; omega, by rw [IntWalk.u16_in _ (by omega)]; omega, IntWalk.u16_in _ (by omega)⟩
theorem len1 (s : List UInt8) (x : UInt8) (h : s.length ≤ 4) : (mkB [x]).size + (mkB s).size ≤ 9223372036854775807 := by
  rw [mkB_size, mkB_size, List.length_singleton]
  omega
theorem hex_go (T : List UInt8) (hT : Tab T) (no : Bool) (m : Nat) : ∀ (i n a k : Nat) (s : List UInt8), m + i = 4 → s.length = i → n < 16 ^ m → hexF s 0 = some a → 58 ∉ s → 46 ∉ s → m + 2 ≤ k → ∃ t, portcullislaw11_hex.l0 k (n : Int) no (mkB T) (mkB s) (i : Int) = some (mkB t) ∧ GoodP t (n * 16 ^ i + a) := by
  induction m with
  | zero =>
    intro i n a k s hm hs hn ha h58 h46 hk
    obtain ⟨k, rfl⟩ : ∃ k', k = k' + 1 := ⟨k - 1, by omega⟩
    have hn0 : n = 0 := by simpa using hn
    subst hn0
    have hne : ¬ (mkB s).toList = [] := fun e => by
      have := mkB_empty s
      rw [e] at this
      have h2 : s = [] := by simpa using this.symm
      rw [h2] at hs; simp at hs; omega
    refine ⟨s, ?_, ⟨by rw [ha]; simp, fun e => by rw [e] at hs; simp at hs; omega, by omega, h58, h46⟩⟩
    simp only [portcullislaw11_hex.l0]
    rw [if_neg hne, if_neg (by simp)]
    cases no with
    | false => rfl
    | true => rw [if_pos rfl, if_neg (by omega)]
  | succ m ih =>
    intro i n a k s hm hs hn ha h58 h46 hk
    obtain ⟨k, rfl⟩ : ∃ k', k = k' + 1 := ⟨k - 1, by omega⟩
    have hs4 : s.length ≤ 4 := by omega
    have hd : n % 16 < 16 := by omega
    have hq : n / 16 < 16 ^ m := by rw [Nat.pow_succ] at hn; omega
    have hn6 : n < 65536 := by
      have h1 := Nat.pow_le_pow_right (n := 16) (by decide) (show m + 1 ≤ 4 by omega)
      have h2 : (16 : Nat) ^ 4 = 65536 := by decide
      omega
    have c1 : (0 : Int) ≤ ((n % 16 : Nat) : Int) := by omega
    have c2 : ((n % 16 : Nat) : Int) ≤ ((n % 16 + 1 : Nat) : Int) := by omega
    have hp1 : 0 < n → (n : Int) > 0 := fun h => by omega
    have hp2 : ¬ 0 < n → ¬ (n : Int) > 0 := fun h => by omega
    have hp3 : ¬ 0 < n → n = 0 := fun h => by omega
    have hi4 : (i : Int) < 4 := by omega
    have hi9 : i ≤ 2147483648 := by omega
    have htd : hexv (T.getD (n % 16) 0) = some (n % 16) := hT.2 _ hd
    have hs2 : hexF (T.getD (n % 16) 0 :: s) 0 = some (n % 16 * 16 ^ i + a) := by
      unfold hexF
      rw [htd]
      simp only [Nat.zero_mul, Nat.zero_add]
      rw [hexF_val s _ a ha, hs]
    have hx58 : T.getD (n % 16) 0 ≠ 58 := fun e => by rw [e, hexv_colon] at htd; cases htd
    have hx46 : T.getD (n % 16) 0 ≠ 46 := fun e => by rw [e, hexv_dot] at htd; cases htd
    obtain ⟨t, ht, hg⟩ := ih (i + 1) (n / 16) _ k (T.getD (n % 16) 0 :: s) (by omega) (by simp [hs]) hq hs2 (fun e => (List.mem_cons.1 e).elim (fun e => hx58 e.symm) h58) (fun e => (List.mem_cons.1 e).elim (fun e => hx46 e.symm) h46) (by omega)
    have hval : n / 16 * 16 ^ (i + 1) + (n % 16 * 16 ^ i + a) = n * 16 ^ i + a := by
      rw [Nat.pow_succ, ← Nat.add_assoc, Nat.mul_comm (16 ^ i) 16, ← Nat.mul_assoc, ← Nat.add_mul]
      congr 2
      omega
    rw [hval] at hg
    obtain ⟨em, ed, ew, ew2⟩ := hexnums n hn6
    have ei : wrap64 ((i : Int) + 1) = ((i + 1 : Nat) : Int) := w64 i hi9
    have c3 : ((n % 16 + 1 : Nat) : Int) ≤ ((mkB T).size : Int) := by
      rw [mkB_size, hT.1]
      omega
    have hlen : (mkB [T.getD (n % 16) 0]).size + (mkB s).size ≤ 9223372036854775807 := len1 s _ hs4
    have hpush : ∀ (X : Option ByteArray), (if (0 : Int) ≤ Int.tmod (n : Int) 16 then (if Int.tmod (n : Int) 16 ≤ IntKind.u16.wrap (Int.tmod (n : Int) 16 + 1) then (if IntKind.u16.wrap (Int.tmod (n : Int) 16 + 1) ≤ ((mkB T).size : Int) then (if ((mkB T).extract (Int.tmod (n : Int) 16).toNat (IntKind.u16.wrap (Int.tmod (n : Int) 16 + 1)).toNat).size + (mkB s).size ≤ 9223372036854775807 then portcullislaw11_hex.l0 k (IntKind.u16.wrap (Int.tdiv (n : Int) 16)) no (mkB T) ((mkB T).extract (Int.tmod (n : Int) 16).toNat (IntKind.u16.wrap (Int.tmod (n : Int) 16 + 1)).toNat ++ mkB s) (wrap64 ((i : Int) + 1)) else none) else none) else none) else none) = some (mkB t) := by
      intro X
      rw [em, ed, ew, ew2, ei, Int.toNat_natCast, Int.toNat_natCast, tab_ext hT _ hd, mkB_append, if_pos c1, if_pos c2, if_pos c3, if_pos hlen]
      exact ht
    by_cases hse : s = []
    · have he : (mkB s).toList = [] := by
        have := mkB_empty s
        rw [decide_eq_true hse] at this
        simpa using this
      refine ⟨t, ?_, hg⟩
      simp only [portcullislaw11_hex.l0]
      rw [if_pos he]
      exact hpush none
    · have hne : ¬ (mkB s).toList = [] := fun e => by
        have := mkB_empty s
        rw [e] at this
        exact hse (by simpa using this.symm)
      by_cases hn0 : 0 < n
      · refine ⟨t, ?_, hg⟩
        simp only [portcullislaw11_hex.l0]
        rw [if_neg hne, if_pos (hp1 hn0)]
        exact hpush none
      · cases no with
        | true =>
          refine ⟨t, ?_, hg⟩
          simp only [portcullislaw11_hex.l0]
          rw [if_neg hne, if_neg (hp2 hn0), if_pos trivial, if_pos hi4]
          exact hpush none
        | false =>
          have hn00 : n = 0 := hp3 hn0
          refine ⟨s, ?_, ⟨by rw [ha, hn00]; simp, hse, hs4, h58, h46⟩⟩
          simp only [portcullislaw11_hex.l0]
          rw [if_neg hne, if_neg (hp2 hn0), if_neg (by simp)]
def hexW (c no : Bool) (n : Nat) : List UInt8 := ((portcullislaw11_hex.f 10 (n : Int) c no).getD ⟨#[]⟩).data.toList
theorem hex_is (c no : Bool) (n : Nat) (hn : n < 65536) : portcullislaw11_hex.f 10 (n : Int) c no = some (mkB (hexW c no n)) ∧ GoodP (hexW c no n) n := by
  have key : ∃ t, portcullislaw11_hex.f 10 (n : Int) c no = some (mkB t) ∧ GoodP t n := by
    cases c with
    | true =>
      obtain ⟨t, ht, hg⟩ := hex_go upS tab_up no 4 0 n 0 9 [] rfl rfl hn rfl (by simp) (by simp) (by decide)
      exact ⟨t, ht, by simpa using hg⟩
    | false =>
      obtain ⟨t, ht, hg⟩ := hex_go hexS tab_low no 4 0 n 0 9 [] rfl rfl hn rfl (by simp) (by simp) (by decide)
      exact ⟨t, ht, by simpa using hg⟩
  obtain ⟨t, ht, hg⟩ := key
  have e : hexW c no n = t := by unfold hexW; rw [ht]; exact data_mkB t
  rw [e]
  exact ⟨ht, hg⟩
theorem hexW_wrt (c no : Bool) (n : Nat) (hn : n < 65536) : Wrt (hexW c no) n := by
  have h := (hex_is c no n hn).2
  have := List.length_pos_iff.2 h.ne
  have := h.le
  exact ⟨by unfold pcF; rw [if_neg (by omega)]; exact h.v, h.co, h.dt⟩
theorem hexcall (c no : Bool) (n : Nat) (hn : n < 65536) (W : World) : Calls Tryd.prog 13 #[.int .u16 (n : Int), .bool c, .bool no] W fun e w' => e = .returned (.string (mkB (hexW c no n))) ∧ Below W.heap.size W w' :=
  (portcullislaw11_hex.calls 10 (n : Int) c no _ W (hex_is c no n hn).1).mono fun e w' ⟨h1, h2⟩ => ⟨h1, h2.below⟩
end Go.Proofs.YtbgmepfejbbpaaaDoor.Pr
