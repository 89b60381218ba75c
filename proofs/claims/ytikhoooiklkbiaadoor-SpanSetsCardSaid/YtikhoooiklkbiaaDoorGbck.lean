import Derived.Test.YtikhoooiklkbiaaDoorGnf
import Derived.Test.YtikhoooiklkbiaaDoorKapp
import Derived.Test.YtikhoooiklkbiaaDoorPrB1
import Derived.Test.YtikhoooiklkbiaaDoorPrA6
import Derived.Test.YtikhoooiklkbiaaDoorGnum
import Derived.Test.YtikhoooiklkbiaaDoorKpar
import Derived.Test.YtikhoooiklkbiaaDoorPrA7
namespace Go.Proofs.YtikhoooiklkbiaaDoor.Pr
open Go.RowKit Go.Proofs.YtikhoooiklkbiaaDoorW.PrintWords Go.Proofs.YtikhoooiklkbiaaDoorW.PrintLast Go.Proofs.YtikhoooiklkbiaaDoorW.PrintMore
set_option linter.unusedVariables false
set_option linter.unusedSimpArgs false

/-! ### The text of a set -/
def oneT (s : Sp) : List UInt8 := digs 16 s.f0.toNat ++ (if s.f1 = s.f0 then [] else 45 :: digs 16 s.f1.toNat)
def tailT (l : List Sp) : List UInt8 := l.flatMap fun s => 44 :: oneT s
def textL : List Sp → List UInt8
  | [] => []
  | s :: l => oneT s ++ tailT l
theorem strOfNums_ints (t : List UInt8) : strOfNums (ints t) = mkB t := by
  unfold strOfNums ints mkB
  rw [List.map_map]
  have e2 : t.map ((fun n : Int => UInt8.ofNat n.toNat) ∘ fun c : UInt8 => (c.toNat : Int)) = t := by
    conv => rhs; rw [← List.map_id t]
    exact List.map_congr_left fun c _ => by simp
  rw [e2]
theorem digs_le6 (n : Nat) (h : n ≤ 1114111) : (digs 16 n).length ≤ 22 := digs_length 16 (by decide) 21 n (by omega)
theorem oneT_len (s : Sp) (h : okS s) : (oneT s).length ≤ 50 := by
  unfold okS at h
  have h1 := digs_le6 s.f0.toNat (by omega)
  have h2 := digs_le6 s.f1.toNat (by omega)
  unfold oneT
  split <;> simp only [List.length_append, List.length_cons, List.length_nil] <;> omega
theorem tailT_len : ∀ (l : List Sp), (∀ s ∈ l, okS s) → (tailT l).length ≤ 51 * l.length
  | [], _ => by simp [tailT]
  | s :: l, h => by
    have h1 := oneT_len s (h s (by simp))
    have h2 := tailT_len l (fun x hx => h x (List.mem_cons_of_mem _ hx))
    unfold tailT at h2 ⊢
    rw [List.flatMap_cons, List.length_append]
    simp only [List.length_cons]
    omega
theorem app_is (x : List Int) (n : Int) (h0 : 0 ≤ n) (h1 : n ≤ 1114111) (hx : x.length ≤ 1000000) : strconv_AppendInt_29.f x (wrap64 n) 16 = some (x ++ ints (digs 16 n.toNat)) := by
  unfold strconv_AppendInt_29.f
  rw [IntWalk.wrap64_in _ (by omega), if_pos ⟨h0, by omega, rfl, by omega⟩]
theorem txt_go (e : Int) (m : List Sp) (hm : ∀ s ∈ m, okS s) (hl : m.length ≤ 1024) : ∀ (rest pre : List Sp) (x : List Int), m = pre ++ rest → pre ≠ [] → x.length ≤ 60 * pre.length → Ev (fun k => span_Text.l0 k e x m (m.length : Int) (pre.length : Int)) (strOfNums (x ++ ints (tailT rest)), e)
  | [], pre, x, he, hp, hx => by
    have hlen : m.length = pre.length := by rw [he]; simp
    refine Ev.one (fun k => ?_)
    simp only [span_Text.l0]
    rw [if_neg (by omega)]
    simp [tailT, ints]
  | s :: rest, pre, x, he, hp, hx => by
    have hlen : m.length = pre.length + 1 + rest.length := by rw [he]; simp; omega
    have hpl : 0 < pre.length := List.length_pos_iff.2 hp
    have h1 : rd_T37 m (pre.length : Int) = s := by rw [he]; exact rdT_app _ _ _
    have hs := hm s (by rw [he]; simp)
    have h1l := oneT_len s hs
    have ih := txt_go e m hm hl rest (pre ++ [s]) (x ++ ints (44 :: oneT s)) (by rw [he]; simp) (by simp) (by rw [List.length_append, ints_length, List.length_append]; simp only [List.length_cons, List.length_nil]; omega)
    rw [show (pre ++ [s]).length = pre.length + 1 by simp] at ih
    have htl : x ++ ints (44 :: oneT s) ++ ints (tailT rest) = x ++ ints (tailT (s :: rest)) := by
      rw [List.append_assoc, ← ints_append]
      unfold tailT
      rw [List.flatMap_cons]
    rw [htl] at ih
    unfold okS at hs
    have hd0 := digs_le6 s.f0.toNat (by omega)
    refine Ev.step (g := fun k => span_Text.l0 k e x m (m.length : Int) (pre.length : Int)) (f := fun k => span_Text.j1 k e (x ++ [44]) m (m.length : Int) (pre.length : Int) s.f0 s.f1) (fun k => ?_) ?_
    · simp only [span_Text.l0]
      rw [if_pos (by omega), if_pos (by omega), if_pos (by omega), if_pos (by omega), if_pos (by omega), h1]
    · refine Ev.step (f := fun k => span_Text.l0 k e (x ++ ints (44 :: oneT s)) m (m.length : Int) ((pre.length + 1 : Nat) : Int)) (fun k => ?_) ih
      simp only [span_Text.j1]
      rw [app_is (x ++ [44]) s.f0 hs.1 (by omega) (by simp; omega), Option.bind_some]
      by_cases hne : s.f1 = s.f0
      · rw [if_pos hne, w64n _ (by omega)]
        have e1 : x ++ [44] ++ ints (digs 16 s.f0.toNat) = x ++ ints (44 :: oneT s) := by
          unfold oneT
          rw [if_pos hne, List.append_nil, List.append_assoc]
          rfl
        rw [e1]
      · rw [if_neg hne, if_pos (by simp [ints]; omega), app_is _ s.f1 (by omega) hs.2.2 (by simp [ints]; omega), Option.bind_some, w64n _ (by omega)]
        have e1 : x ++ [44] ++ ints (digs 16 s.f0.toNat) ++ [45] ++ ints (digs 16 s.f1.toNat) = x ++ ints (44 :: oneT s) := by
          unfold oneT
          rw [if_neg hne]
          simp [ints]
        rw [e1]
theorem txt_is (l m : List Sp) (e : Int) (hN : span_Norm.f l = some (m, e)) (hm : ∀ s ∈ m, okS s) (hl : m.length ≤ 1024) : Ev (fun k => span_Text.f k l) (mkB (textL m), e) := by
  unfold span_Text.f
  rw [hN]
  show Ev (fun k => span_Text.l0 k e [] m (m.length : Int) 0) (mkB (textL m), e)
  cases m with
  | nil =>
    refine Ev.one (fun k => ?_)
    simp only [span_Text.l0]
    rw [if_neg (by simp)]
    rfl
  | cons s rest =>
    have hs := hm s (by simp)
    have h1l := oneT_len s hs
    have ih := txt_go e (s :: rest) hm hl rest [s] (ints (oneT s)) rfl (by simp) (by rw [ints_length]; simp; omega)
    rw [← ints_append, strOfNums_ints] at ih
    have h1 : rd_T37 (s :: rest) 0 = s := rdT_app [] rest s
    unfold okS at hs
    have hd0 := digs_le6 s.f0.toNat (by omega)
    refine Ev.step (f := fun k => span_Text.j1 k e [] (s :: rest) ((s :: rest).length : Int) 0 s.f0 s.f1) (fun k => ?_) ?_
    · simp only [span_Text.l0]
      rw [if_pos (by simp only [List.length_cons]; omega), if_pos (by omega), if_pos (by simp only [List.length_cons]; omega), if_neg (by omega), h1]
    · refine Ev.step (f := fun k => span_Text.l0 k e (ints (oneT s)) (s :: rest) ((s :: rest).length : Int) (([s].length : Nat) : Int)) (fun k => ?_) ih
      simp only [span_Text.j1]
      rw [app_is [] s.f0 hs.1 (by omega) (by simp), Option.bind_some]
      by_cases hne : s.f1 = s.f0
      · rw [if_pos hne]
        have e1 : [] ++ ints (digs 16 s.f0.toNat) = ints (oneT s) := by
          unfold oneT
          rw [if_pos hne, List.append_nil]
          rfl
        rw [e1]
        exact congrArg (fun z => span_Text.l0 k e (ints (oneT s)) (s :: rest) ((s :: rest).length : Int) z) (w64n 0 (by omega))
      · rw [if_neg hne, if_pos (by simp [ints]; omega), app_is _ s.f1 (by omega) hs.2.2 (by simp [ints]; omega), Option.bind_some]
        have e1 : [] ++ ints (digs 16 s.f0.toNat) ++ [45] ++ ints (digs 16 s.f1.toNat) = ints (oneT s) := by
          unfold oneT
          rw [if_neg hne]
          simp [ints]
        rw [e1]
        exact congrArg (fun z => span_Text.l0 k e (ints (oneT s)) (s :: rest) ((s :: rest).length : Int) z) (w64n 0 (by omega))
/-! ### The reference's -/
theorem dig_is (d : Nat) (h : d < 16) : portcullisref02_digit.f (d : Int) = some ((hexc d).toNat : Int) := by
  rcases (by omega : d = 0 ∨ d = 1 ∨ d = 2 ∨ d = 3 ∨ d = 4 ∨ d = 5 ∨ d = 6 ∨ d = 7 ∨ d = 8 ∨ d = 9 ∨ d = 10 ∨ d = 11 ∨ d = 12 ∨ d = 13 ∨ d = 14 ∨ d = 15) with rfl | rfl | rfl | rfl | rfl | rfl | rfl | rfl | rfl | rfl | rfl | rfl | rfl | rfl | rfl | rfl
  all_goals kernel_rfl
theorem sz1 (c : UInt8) : strOfNums [(c.toNat : Int)] = mkB [c] := strOfNums_ints [c]
theorem hex_go : ∀ (n : Nat) (t : List UInt8), n ≤ 1114111 → t.length + (digs 16 n).length ≤ 1000 → Ev (fun k => portcullisref02_Hex.l0 k (n : Int) (mkB t)) (mkB (if n < 16 then t else digs 16 (n / 16) ++ t))
  | n, t, hn, ht => by
    by_cases h : n < 16
    · rw [if_pos h]
      refine Ev.one (fun k => ?_)
      simp only [portcullisref02_Hex.l0]
      rw [if_neg (by omega)]
    · rw [if_neg h]
      have hq : wrap32 (Int.tdiv (n : Int) 16) = ((n / 16 : Nat) : Int) := by
        rw [show Int.tdiv (n : Int) 16 = ((n / 16 : Nat) : Int) from rfl]
        exact w32s _ (by omega) (by omega)
      have hr : Int.tmod ((n / 16 : Nat) : Int) 16 = ((n / 16 % 16 : Nat) : Int) := rfl
      have hd := digs_step (b := 16) (n := n) (by decide) (by omega)
      have hd1 : (digs 16 n).length = (digs 16 (n / 16)).length + 1 := by rw [hd]; simp
      have ih := hex_go (n / 16) (hexc (n / 16 % 16) :: t) (by omega) (by simp only [List.length_cons]; omega)
      have e : (if n / 16 < 16 then hexc (n / 16 % 16) :: t else digs 16 (n / 16 / 16) ++ hexc (n / 16 % 16) :: t) = digs 16 (n / 16) ++ t := by
        split
        · next h2 => rw [digs_small h2, Nat.mod_eq_of_lt h2]; rfl
        · next h2 => rw [digs_step (by decide) (by omega : 16 ≤ n / 16)]; simp
      rw [e] at ih
      refine Ev.step (f := fun k => portcullisref02_Hex.l0 k ((n / 16 : Nat) : Int) (mkB (hexc (n / 16 % 16) :: t))) (fun k => ?_) ih
      simp only [portcullisref02_Hex.l0]
      rw [if_pos (by omega), hq, hr, dig_is _ (Nat.mod_lt _ (by decide)), Option.bind_some, Option.bind_some, sz1, if_pos (by rw [mkB_size, mkB_size]; simp only [List.length_cons, List.length_nil]; omega), mkB_append]
      rfl
theorem hex_is (n : Int) (h0 : 0 ≤ n) (h1 : n ≤ 1114111) : Ev (fun k => portcullisref02_Hex.f k n) (mkB (digs 16 n.toNat)) := by
  obtain ⟨m, rfl⟩ := Int.eq_ofNat_of_zero_le h0
  rw [Int.toNat_natCast]
  have hm : m ≤ 1114111 := by omega
  have hl := digs_le6 m hm
  have hr : Int.tmod (m : Int) 16 = ((m % 16 : Nat) : Int) := rfl
  have ih := hex_go m [hexc (m % 16)] hm (by simp only [List.length_cons, List.length_nil]; omega)
  have e : (if m < 16 then [hexc (m % 16)] else digs 16 (m / 16) ++ [hexc (m % 16)]) = digs 16 m := by
    split
    · next h2 => rw [digs_small h2, Nat.mod_eq_of_lt h2]
    · next h2 => rw [digs_step (by decide) (by omega : 16 ≤ m)]
  rw [e] at ih
  refine Ev.of_eq (g := fun k => portcullisref02_Hex.l0 k (m : Int) (mkB [hexc (m % 16)])) (fun k => ?_) ih
  unfold portcullisref02_Hex.f
  rw [hr, dig_is _ (Nat.mod_lt _ (by decide)), Option.bind_some, sz1]
theorem rtxt_j (e : Int) (m : List Sp) (s : Sp) (i : Nat) (x : List UInt8) (hs : okS s) (hi : i < m.length) (hl : m.length ≤ 1024) (h1 : rd_T37 m (i : Int) = s) (hx : x.length ≤ 1000000) (r : ByteArray × Int)
    (ih : Ev (fun k => portcullisref02_Text.l0 k m e (mkB (x ++ oneT s)) ((i + 1 : Nat) : Int)) r) : Ev (fun k => portcullisref02_Text.j1 k m e (mkB x) (i : Int)) r := by
  unfold okS at hs
  have hd0 := digs_le6 s.f0.toNat (by omega)
  have hd1 := digs_le6 s.f1.toNat (by omega)
  obtain ⟨K0, hK0⟩ := hex_is s.f0 hs.1 (by omega)
  obtain ⟨K1, hK1⟩ := hex_is s.f1 (by omega) hs.2.2
  obtain ⟨K2, hK2⟩ := ih
  refine ⟨K0 + K1 + K2 + 1, fun k hk => ?_⟩
  obtain ⟨k, rfl⟩ : ∃ k', k = k' + 1 := ⟨k - 1, by omega⟩
  have e0 := hK0 k (by omega)
  have e1 := hK1 k (by omega)
  have e2 := hK2 k (by omega)
  simp only at e0 e1 e2 ⊢
  simp only [portcullisref02_Text.j1]
  rw [if_pos (by omega), if_pos (by omega), h1, e0, Option.bind_some, if_pos (by rw [mkB_size, mkB_size]; omega), mkB_append, w64n _ (by omega)]
  by_cases hne : s.f1 = s.f0
  · rw [if_pos hne]
    unfold oneT at e2
    rw [if_pos hne, List.append_nil] at e2
    exact e2
  · rw [if_neg hne, if_pos (by rw [mkB_size, List.length_append]; omega), e1, Option.bind_some]
    have h45 : (⟨#[45]⟩ : ByteArray) = mkB [45] := rfl
    rw [h45, mkB_append, if_pos (by rw [mkB_size, mkB_size]; simp only [List.length_append, List.length_cons, List.length_nil]; omega), mkB_append]
    unfold oneT at e2
    rw [if_neg hne] at e2
    rw [show x ++ digs 16 s.f0.toNat ++ [45] ++ digs 16 s.f1.toNat = x ++ (digs 16 s.f0.toNat ++ 45 :: digs 16 s.f1.toNat) by simp]
    exact e2
theorem rtxt_go (e : Int) (m : List Sp) (hm : ∀ s ∈ m, okS s) (hl : m.length ≤ 1024) : ∀ (rest pre : List Sp) (x : List UInt8), m = pre ++ rest → pre ≠ [] → x.length ≤ 60 * pre.length → Ev (fun k => portcullisref02_Text.l0 k m e (mkB x) (pre.length : Int)) (mkB (x ++ tailT rest), e)
  | [], pre, x, he, hp, hx => by
    have hlen : m.length = pre.length := by rw [he]; simp
    refine Ev.one (fun k => ?_)
    simp only [portcullisref02_Text.l0]
    rw [if_neg (by omega)]
    simp [tailT]
  | s :: rest, pre, x, he, hp, hx => by
    have hlen : m.length = pre.length + 1 + rest.length := by rw [he]; simp; omega
    have hpl : 0 < pre.length := List.length_pos_iff.2 hp
    have h1 : rd_T37 m (pre.length : Int) = s := by rw [he]; exact rdT_app _ _ _
    have hs := hm s (by rw [he]; simp)
    have h1l := oneT_len s hs
    have ih := rtxt_go e m hm hl rest (pre ++ [s]) (x ++ 44 :: oneT s) (by rw [he]; simp) (by simp) (by rw [List.length_append, List.length_append]; simp only [List.length_cons, List.length_nil]; omega)
    rw [show (pre ++ [s]).length = pre.length + 1 by simp] at ih
    have htl : x ++ 44 :: oneT s ++ tailT rest = x ++ tailT (s :: rest) := by
      unfold tailT
      rw [List.flatMap_cons]
      simp
    rw [htl] at ih
    have hj := rtxt_j e m s pre.length (x ++ [44]) hs (by omega) hl h1 (by simp; omega) _ (by rw [show x ++ [44] ++ oneT s = x ++ 44 :: oneT s by simp]; exact ih)
    refine Ev.step (f := fun k => portcullisref02_Text.j1 k m e (mkB (x ++ [44])) (pre.length : Int)) (fun k => ?_) hj
    simp only [portcullisref02_Text.l0]
    have h44 : (⟨#[44]⟩ : ByteArray) = mkB [44] := rfl
    rw [if_pos (by omega), if_pos (by omega), if_pos (by rw [mkB_size]; omega), h44, mkB_append]
theorem rtxt_is (l m : List Sp) (e : Int) (hN : Ev (fun k => portcullisref02_Norm.f k l) (m, e)) (hm : ∀ s ∈ m, okS s) (hl : m.length ≤ 1024) : Ev (fun k => portcullisref02_Text.f k l) (mkB (textL m), e) := by
  unfold portcullisref02_Text.f
  refine Ev.bind (F := fun k bt => portcullisref02_Text.l0 k bt.1 bt.2 (⟨#[]⟩ : ByteArray) 0) hN ?_
  show Ev (fun k => portcullisref02_Text.l0 k m e (⟨#[]⟩ : ByteArray) 0) (mkB (textL m), e)
  cases m with
  | nil =>
    refine Ev.one (fun k => ?_)
    simp only [portcullisref02_Text.l0]
    rw [if_neg (by simp)]
    rfl
  | cons s rest =>
    have hs := hm s (by simp)
    have h1l := oneT_len s hs
    have ih := rtxt_go e (s :: rest) hm hl rest [s] (oneT s) rfl (by simp) (by simp; omega)
    have hj := rtxt_j e (s :: rest) s 0 [] hs (by simp) hl (rdT_app [] rest s) (by simp) _ ih
    refine Ev.step (f := fun k => portcullisref02_Text.j1 k (s :: rest) e (mkB []) ((0 : Nat) : Int)) (fun k => ?_) hj
    simp only [portcullisref02_Text.l0]
    rw [if_pos (by simp only [List.length_cons]; omega), if_neg (by omega)]
    rfl
/-- The two normal forms are one. -/
theorem rnorm_is (l : List Sp) (hl : l.length ≤ 100000) : Ev (fun k => portcullisref02_Norm.f k l) (madeR cNorm l []) := by
  unfold portcullisref02_Norm.f
  have h := made_is 0 l [] hl (by simp)
  have e : madeR (cntH 0) l [] = madeR cNorm l [] := madeR_congr (fun x => by unfold cntH cNorm; simp) l
  rw [e] at h
  exact Ev.bind (F := fun k bt => some (bt.1, bt.2)) h ⟨0, fun k _ => rfl⟩
theorem snorm_is (l : List Sp) (hl : l.length ≤ 100000) : span_Norm.f l = some (madeR cNorm l []) := by unfold span_Norm.f; rw [if_pos hl]
end Go.Proofs.YtikhoooiklkbiaaDoor.Pr
namespace Go.Proofs.YtikhoooiklkbiaaDoor.Pr
open Go.RowKit Go.Proofs.YtikhoooiklkbiaaDoorW.PrintWords Go.Proofs.YtikhoooiklkbiaaDoorW.PrintLast Go.Proofs.YtikhoooiklkbiaaDoorW.PrintMore
set_option linter.unusedVariables false
set_option linter.unusedSimpArgs false

/-! ### Parse and the reference's -/
theorem ext_mkB (s : List UInt8) (n : Nat) (hn : n ≤ s.length) : (mkB s).extract n (mkB s).size = mkB (s.drop n) := by
  have h : ((mkB s).extract n (mkB s).size).data.toList = s.drop n := by
    rw [ByteArray.data_extract, Array.toList_extract, mkB_size]
    show ((mkB s).data.toList.extract n s.length) = _
    rw [data_mkB, List.extract_eq_take_drop, List.take_of_length_le (by rw [List.length_drop]; omega)]
  rw [← h, mkB_data]
theorem isAt_bt (s : List UInt8) (m : Nat) (hm : m < s.length) (c : UInt8) : isAt s m c = (bt (mkB s) (m : Int) == (c.toNat : Int)) := by
  rw [bt_mkB s m hm]
  unfold isAt
  rw [List.getElem?_eq_getElem hm, Bool.eq_iff_iff, beq_iff_eq, beq_iff_eq]
  exact ⟨fun h => by rw [Option.some.inj h], fun h => by rw [UInt8.toNat_inj.1 (Int.ofNat.inj h)]⟩
theorem w64add (n j : Nat) (h : n + j ≤ 2147483648) : wrap64 ((n : Int) + (j : Int)) = ((n + j : Nat) : Int) := by rw [IntWalk.wrap64_in _ (by omega)]; omega
theorem isAt_45 (s : List UInt8) (m : Nat) (hm : m < s.length) : isAt s m 45 = (bt (mkB s) (m : Int) == 45) := isAt_bt s m hm 45
theorem num_at (s : List UInt8) (hs : s.length ≤ 1000000) (n : Nat) (hn : n ≤ s.length) : Ev (fun k => portcullisref02_number.f k ((mkB s).extract ((n : Int)).toNat (mkB s).size)) (((numF s n).1 : Int), ((numF s n).2 : Int)) := by
  rw [Int.toNat_natCast, ext_mkB s n hn]
  exact number_is (s.drop n) (by rw [List.length_drop]; omega)
theorem isAt_lt {s : List UInt8} {m : Nat} {c : UInt8} (h : isAt s m c = true) : m < s.length := by
  unfold isAt at h
  rcases Nat.lt_or_ge m s.length with h' | h'
  · exact h'
  · rw [List.getElem?_eq_none h'] at h; cases h
/-- The end of a round, in the reference. -/
theorem ref_end (s : List UInt8) (hs : s.length ≤ 1000000) (l : List Sp) (hl : l.length < 1024) (m v hi : Nat) (hm : m ≤ s.length) (hhi : hi ≤ 1114111) (r : List Sp × Int × Int)
    (h1 : m = s.length → r = (l ++ [⟨(v : Int), (hi : Int)⟩], 0, 0))
    (h2 : m ≠ s.length → (l.length + 1 = 1024 ∨ isAt s m 44 = false) → r = ([], (m : Int), 8))
    (h3 : m ≠ s.length → ¬ (l.length + 1 = 1024 ∨ isAt s m 44 = false) → Ev (fun k => portcullisref02_Parse.l0 k (mkB s) (l ++ [⟨(v : Int), (hi : Int)⟩]) ((m + 1 : Nat) : Int) ((hi : Int) + 2)) r) :
    Ev (fun k => portcullisref02_Parse.j3 k (mkB s) l (m : Int) (v : Int) (hi : Int)) r := by
  have hz := mkB_size s
  by_cases c1 : m = s.length
  · rw [h1 c1]
    refine Ev.one (fun k => ?_)
    rw [portcullisref02_Parse.j3]
    rw [if_pos (by omega), Option.bind_some, if_pos (by omega)]
  · by_cases c2 : isAt s m 44 = false
    · rw [h2 c1 (.inr c2)]
      refine Ev.one (fun k => ?_)
      rw [portcullisref02_Parse.j3]
      rw [isAt_bt s m (by omega)] at c2
      rw [if_pos (by omega), Option.bind_some, if_neg (by omega), if_pos (by omega), if_pos (by omega), if_neg (show ¬ bt (mkB s) (m : Int) = 44 from beq_eq_false_iff_ne.1 c2)]
    · have c3 : isAt s m 44 = true := by cases h : isAt s m 44 with | true => rfl | false => exact absurd h c2
      have c4 := c3
      rw [isAt_bt s m (by omega)] at c4
      have c5 : bt (mkB s) (m : Int) = 44 := beq_iff_eq.1 c4
      by_cases c6 : l.length + 1 = 1024
      · rw [h2 c1 (.inl c6)]
        refine Ev.one (fun k => ?_)
        rw [portcullisref02_Parse.j3]
        rw [if_pos (by omega), Option.bind_some, if_neg (by omega), if_pos (by omega), if_pos (by omega), if_pos c5, if_pos (by rw [List.length_append]; simp only [List.length_cons, List.length_nil]; omega)]
      · refine Ev.step (fun k => ?_) (h3 c1 (fun e => by rcases e with e | e; exact c6 e; exact c2 e))
        rw [portcullisref02_Parse.j3]
        rw [if_pos (by omega), Option.bind_some, if_neg (by omega), if_pos (by omega), if_pos (by omega), if_pos c5, if_neg (by rw [List.length_append]; simp only [List.length_cons, List.length_nil]; omega), w64n _ (by omega), w32s _ (by omega) (by omega)]
theorem ref_par (s : List UInt8) (hs : s.length ≤ 1000000) : ∀ (f n : Nat) (least : Int) (l : List Sp), s.length + 1 ≤ f + n → n ≤ s.length → l.length < 1024 →
    ∃ r, parK s f n least l = some r ∧ Ev (fun k => portcullisref02_Parse.l0 k (mkB s) l (n : Int) least) r
  | 0, n, least, l, hf, hn, hl => by omega
  | f + 1, n, least, l, hf, hn, hl => by
    have hz := mkB_size s
    obtain ⟨K1, hK1⟩ := num_at s hs n hn
    have hnj := numF_le s n hn
    unfold parK
    obtain ⟨v, hv⟩ : ∃ v, (numF s n).1 = v := ⟨_, rfl⟩
    obtain ⟨j, hj⟩ : ∃ j, (numF s n).2 = j := ⟨_, rfl⟩
    rw [hv, hj] at hK1 ⊢
    rw [hj] at hnj
    -- one step into the reference
    have hin : ∀ (b : Bool) (r : List Sp × Int × Int), (b = true ↔ (j = 0 ∨ 1114111 < v ∨ (v : Int) < least)) → Ev (fun k => portcullisref02_Parse.j1 k (mkB s) l (n : Int) (v : Int) (j : Int) b) r → Ev (fun k => portcullisref02_Parse.l0 k (mkB s) l (n : Int) least) r := fun b r hb ⟨K2, hK2⟩ => by
      refine ⟨K1 + K2 + 1, fun k hk => ?_⟩
      obtain ⟨k, rfl⟩ : ∃ k', k = k' + 1 := ⟨k - 1, by omega⟩
      have e1 := hK1 k (by omega)
      have e2 := hK2 k (by omega)
      simp only at e1 e2 ⊢
      rw [portcullisref02_Parse.l0]
      rw [if_pos (by omega), if_pos (by omega), e1, Option.bind_some]
      simp only
      by_cases c1 : j = 0
      · rw [if_pos (by omega), ← hb.2 (.inl c1)]
        exact e2
      · rw [if_neg (by omega)]
        by_cases c2 : 1114111 < v
        · rw [if_pos (by omega), ← hb.2 (.inr (.inl c2))]
          exact e2
        · rw [if_neg (by omega)]
          have : decide ((v : Int) < least) = b := by
            cases b with
            | true => exact decide_eq_true (by have := hb.1 rfl; omega)
            | false => exact decide_eq_false (fun e => by have := hb.2 (.inr (.inr e)); cases this)
          rw [this]
          exact e2
    by_cases c1 : j = 0 ∨ 1114111 < v ∨ (v : Int) < least
    · rw [if_pos c1]
      refine ⟨_, rfl, hin true _ ⟨fun _ => c1, fun _ => rfl⟩ (Ev.one (fun k => ?_))⟩
      rw [portcullisref02_Parse.j1]
      rw [if_pos rfl]
    · rw [if_neg c1]
      have hin2 := fun r (h : Ev (fun k => portcullisref02_Parse.j2 k (mkB s) l ((n + j : Nat) : Int) (v : Int) (v : Int) (isAt s (n + j) 45)) r) => hin false r ⟨fun e => by (cases e), fun e => absurd e c1⟩ (by
        refine Ev.step (fun k => ?_) h
        rw [portcullisref02_Parse.j1]
        rw [if_neg (by decide), w64add n j (by omega)]
        by_cases c2 : n + j < s.length
        · have k1 : ((n + j : Nat) : Int) < ((mkB s).size : Int) := by omega
          have k2 : (0 : Int) ≤ ((n + j : Nat) : Int) := by omega
          rw [if_pos k1, if_pos k2, isAt_45 s (n + j) c2]
        · rw [if_neg (by omega)]
          have : isAt s (n + j) 45 = false := by unfold isAt; rw [List.getElem?_eq_none (by omega)]; rfl
          rw [this])
      by_cases c2 : isAt s (n + j) 45 = true
      · have hlt := isAt_lt c2
        rw [if_pos c2]
        rw [c2] at hin2
        obtain ⟨K3, hK3⟩ := num_at s hs (n + j + 1) (by omega)
        have hnj2 := numF_le s (n + j + 1) (by omega)
        obtain ⟨v2, hv2⟩ : ∃ v2, (numF s (n + j + 1)).1 = v2 := ⟨_, rfl⟩
        obtain ⟨j2, hj2⟩ : ∃ j2, (numF s (n + j + 1)).2 = j2 := ⟨_, rfl⟩
        rw [hv2, hj2] at hK3 ⊢
        rw [hj2] at hnj2
        by_cases c3 : j2 = 0 ∨ 1114111 < v2 ∨ (v2 : Int) < (v : Int) + 1
        · rw [if_pos c3]
          refine ⟨_, rfl, hin2 _ ⟨K3 + 1, fun k hk => ?_⟩⟩
          obtain ⟨k, rfl⟩ : ∃ k', k = k' + 1 := ⟨k - 1, by omega⟩
          have e1 := hK3 k (by omega)
          simp only at e1 ⊢
          rw [portcullisref02_Parse.j2]
          rw [if_pos rfl, w64n (n + j) (by omega), if_pos (by omega), if_pos (by omega), e1, Option.bind_some]
          simp only
          by_cases d1 : j2 = 0
          · rw [if_pos (by omega)]
          · rw [if_neg (by omega)]
            by_cases d2 : 1114111 < v2
            · rw [if_pos (by omega)]
            · rw [if_neg (by omega), if_pos (by omega)]
        · rw [if_neg c3]
          have hgo := fun r (h : Ev (fun k => portcullisref02_Parse.j3 k (mkB s) l ((n + j + 1 + j2 : Nat) : Int) (v : Int) (v2 : Int)) r) => hin2 r (by
            obtain ⟨K4, hK4⟩ := h
            refine ⟨K3 + K4 + 1, fun k hk => ?_⟩
            obtain ⟨k, rfl⟩ : ∃ k', k = k' + 1 := ⟨k - 1, by omega⟩
            have e1 := hK3 k (by omega)
            have e2 := hK4 k (by omega)
            simp only at e1 e2 ⊢
            rw [portcullisref02_Parse.j2]
            rw [if_pos rfl, w64n (n + j) (by omega), if_pos (by omega), if_pos (by omega), e1, Option.bind_some]
            simp only
            rw [if_neg (by omega), if_neg (by omega), if_neg (by omega), w64add (n + j + 1) j2 (by omega)]
            exact e2)
          by_cases d1 : n + j + 1 + j2 = s.length
          · rw [if_pos d1]
            exact ⟨_, rfl, hgo _ (ref_end s hs l hl _ v v2 (by omega) (by omega) _ (fun _ => rfl) (fun e => absurd d1 e) (fun e => absurd d1 e))⟩
          · rw [if_neg d1]
            by_cases d2 : l.length + 1 = 1024 ∨ isAt s (n + j + 1 + j2) 44 = false
            · rw [if_pos d2]
              exact ⟨_, rfl, hgo _ (ref_end s hs l hl _ v v2 (by omega) (by omega) _ (fun e => absurd e d1) (fun _ _ => rfl) (fun _ e => absurd d2 e))⟩
            · rw [if_neg d2]
              obtain ⟨r, hr1, hr2⟩ := ref_par s hs f (n + j + 1 + j2 + 1) ((v2 : Int) + 2) (l ++ [⟨(v : Int), (v2 : Int)⟩]) (by omega) (by omega) (by rw [List.length_append]; simp only [List.length_cons, List.length_nil]; omega)
              exact ⟨r, hr1, hgo _ (ref_end s hs l hl _ v v2 (by omega) (by omega) _ (fun e => absurd e d1) (fun _ e => absurd e d2) (fun _ _ => hr2))⟩
      · rw [if_neg c2]
        have c7 : isAt s (n + j) 45 = false := by cases h : isAt s (n + j) 45 with | false => rfl | true => exact absurd h c2
        rw [c7] at hin2
        have hgo := fun r (h : Ev (fun k => portcullisref02_Parse.j3 k (mkB s) l ((n + j : Nat) : Int) (v : Int) (v : Int)) r) => hin2 r (by
          refine Ev.step (fun k => ?_) h
          rw [portcullisref02_Parse.j2]
          rw [if_neg (by decide)])
        by_cases d1 : n + j = s.length
        · rw [if_pos d1]
          exact ⟨_, rfl, hgo _ (ref_end s hs l hl _ v v (by omega) (by omega) _ (fun _ => rfl) (fun e => absurd d1 e) (fun e => absurd d1 e))⟩
        · rw [if_neg d1]
          by_cases d2 : l.length + 1 = 1024 ∨ isAt s (n + j) 44 = false
          · rw [if_pos d2]
            exact ⟨_, rfl, hgo _ (ref_end s hs l hl _ v v (by omega) (by omega) _ (fun e => absurd e d1) (fun _ _ => rfl) (fun _ e => absurd d2 e))⟩
          · rw [if_neg d2]
            obtain ⟨r, hr1, hr2⟩ := ref_par s hs f (n + j + 1) ((v : Int) + 2) (l ++ [⟨(v : Int), (v : Int)⟩]) (by omega) (by omega) (by rw [List.length_append]; simp only [List.length_cons, List.length_nil]; omega)
            exact ⟨r, hr1, hgo _ (ref_end s hs l hl _ v v (by omega) (by omega) _ (fun e => absurd e d1) (fun _ e => absurd e d2) (fun _ _ => hr2))⟩
theorem parse_is (a : ByteArray) (ha : a.size ≤ 1000000) : ∃ r, span_Parse.f a = some r ∧ Ev (fun k => portcullisref02_Parse.f k a) r := by
  unfold span_Parse.f portcullisref02_Parse.f
  rw [if_pos ha]
  have hl : a.data.toList.length = a.size := Array.length_toList
  by_cases h0 : a.size = 0
  · rw [if_pos h0]
    refine ⟨_, rfl, ⟨0, fun k _ => ?_⟩⟩
    have : a.toList = [] := by rw [Lib.toList_data]; exact List.length_eq_zero_iff.1 (by rw [hl, h0])
    simp only
    rw [if_pos this]
  · rw [if_neg h0]
    have : ¬ a.toList = [] := fun e => by
      rw [Lib.toList_data] at e
      rw [e] at hl
      exact h0 hl.symm
    obtain ⟨r, h1, h2⟩ := ref_par a.data.toList (by omega) (a.size + 1) 0 0 [] (by omega) (by omega) (by simp)
    rw [mkB_data] at h2
    refine ⟨r, h1, Ev.of_eq (fun k => ?_) h2⟩
    rw [if_neg this]
    rfl
end Go.Proofs.YtikhoooiklkbiaaDoor.Pr
namespace Go.Proofs.YtikhoooiklkbiaaDoor.Pr
open Go.RowKit Go.Proofs.YtikhoooiklkbiaaDoorW.PrintWords Go.Proofs.YtikhoooiklkbiaaDoorW.PrintLast Go.Proofs.YtikhoooiklkbiaaDoorW.PrintMore
set_option linter.unusedVariables false
set_option linter.unusedSimpArgs false

/-! ### A set's text is read as it; what is read has one text -/
theorem hexl_hexc_all : ((List.range 16).all fun d => decide (hexl (hexc d) = some d)) = true := by decide +kernel
theorem hexl_hexc (d : Nat) (h : d < 16) : hexl (hexc d) = some d := of_decide_eq_true (List.all_eq_true.1 hexl_hexc_all d (List.mem_range.2 h))
theorem hexl_some_all : ((List.range 256).all fun c => (List.range 16).all fun d => decide (hexl (UInt8.ofNat c) = some d → UInt8.ofNat c = hexc d)) = true := by decide +kernel
theorem hexl_lt {c : UInt8} {d : Nat} (h : hexl c = some d) : d < 16 := by
  unfold hexl at h
  split at h
  · cases h; omega
  · split at h
    · cases h; omega
    · cases h
theorem hexl_inv {c : UInt8} {d : Nat} (h : hexl c = some d) : c = hexc d := by
  have hc := UInt8.toNat_lt c
  have := of_decide_eq_true (List.all_eq_true.1 (List.all_eq_true.1 hexl_some_all c.toNat (List.mem_range.2 hc)) d (List.mem_range.2 (hexl_lt h)))
  rw [UInt8.ofNat_toNat] at this
  exact this h
/-- What follows a number does not go on with it. -/
def Stop (R : List UInt8) : Prop := ∀ c ∈ R.head?, hexl c = none
theorem numK_stop (r : Nat) (R : List UInt8) (v j : Nat) (h : Stop R) : numK r R v j = (v, j) := by
  cases r with
  | zero => rfl
  | succ r =>
    cases R with
    | nil => rfl
    | cons c l =>
      unfold numK
      rw [h c rfl]
      simp
theorem digs_le6' : ∀ (k n : Nat), 1 ≤ k → n < 16 ^ k → (digs 16 n).length ≤ k
  | 0, n, h, _ => by omega
  | 1, n, _, h => by rw [digs_small (by simpa using h)]; simp
  | k + 2, n, _, h => by
    by_cases hn : n < 16
    · rw [digs_small hn]; simp
    · rw [digs_step (by decide) (by omega)]
      have := digs_le6' (k + 1) (n / 16) (by omega) (by rw [Nat.pow_succ] at h; omega)
      rw [List.length_append]
      simp only [List.length_cons, List.length_nil]
      omega
theorem numK_digs (n : Nat) (h0 : 0 < n) (R : List UInt8) (r : Nat) (hr : (digs 16 n).length ≤ r) : numK r (digs 16 n ++ R) 0 0 = numK (r - (digs 16 n).length) R n (digs 16 n).length := by
  by_cases h : n < 16
  · rw [digs_small h] at hr ⊢
    obtain ⟨r, rfl⟩ : ∃ r', r = r' + 1 := ⟨r - 1, by simp at hr; omega⟩
    show numK (r + 1) (hexc n :: R) 0 0 = _
    rw [numK, if_neg (by omega), hexl_hexc n h]
    simp
  · have hd := digs_step (b := 16) (n := n) (by decide) (by omega)
    have hl : (digs 16 n).length = (digs 16 (n / 16)).length + 1 := by rw [hd]; simp
    have ih := numK_digs (n / 16) (by omega) (hexc (n % 16) :: R) r (by omega)
    have h1 : 1 ≤ (digs 16 (n / 16)).length := List.length_pos_iff.2 (digs_ne 16 _)
    rw [hl] at hr ⊢
    rw [hd, List.append_assoc]
    show numK r (digs 16 (n / 16) ++ hexc (n % 16) :: R) 0 0 = _
    rw [ih]
    obtain ⟨q, hq⟩ : ∃ q, r - (digs 16 (n / 16)).length = q + 1 := ⟨r - (digs 16 (n / 16)).length - 1, by omega⟩
    rw [hq, numK, if_neg (by omega), hexl_hexc _ (Nat.mod_lt _ (by decide)), show r - ((digs 16 (n / 16)).length + 1) = q by omega]
    show numK q R (n / 16 * 16 + n % 16) _ = _
    rw [show n / 16 * 16 + n % 16 = n by omega]
theorem numF_digs (s : List UInt8) (at_ n : Nat) (R : List UInt8) (hn : n ≤ 1114111) (he : s.drop at_ = digs 16 n ++ R) (hR : Stop R) : numF s at_ = (n, (digs 16 n).length) := by
  unfold numF
  rw [he]
  rcases Nat.eq_zero_or_pos n with rfl | h0
  · rw [digs_small (by decide)]
    show numK 6 (hexc 0 :: R) 0 0 = _
    rw [numK, if_neg (by decide), hexl_hexc 0 (by decide)]
    show numK 5 R 0 1 = (0, 1)
    cases R with
    | nil => rfl
    | cons c l => rw [numK, if_pos ⟨rfl, rfl⟩]
  · rw [numK_digs n h0 R 6 (digs_le6' 6 n (by decide) (by omega))]
    exact numK_stop _ _ _ _ hR
theorem stop_nil : Stop [] := fun c h => by cases h
theorem stop_45 (l : List UInt8) : Stop (45 :: l) := fun c h => by cases h; decide
theorem stop_44 (l : List UInt8) : Stop (44 :: l) := fun c h => by cases h; decide
theorem stop_tail : ∀ l : List Sp, Stop (tailT l)
  | [] => stop_nil
  | s :: l => by unfold tailT; rw [List.flatMap_cons]; exact stop_44 _
theorem isAt_drop (s : List UInt8) (n : Nat) (c : UInt8) : isAt s n c = ((s.drop n).head? == some c) := by unfold isAt; rw [List.head?_drop]
theorem drop_add (s : List UInt8) (n : Nat) (A R : List UInt8) (h : s.drop n = A ++ R) : s.drop (n + A.length) = R := by
  rw [← List.drop_drop, h, List.drop_left]
theorem len_of_drop {s : List UInt8} {n : Nat} {A : List UInt8} (h : s.drop n = A) (hA : A ≠ []) : n + A.length = s.length := by
  have h1 := congrArg List.length h
  rw [List.length_drop] at h1
  have : 0 < A.length := List.length_pos_iff.2 hA
  omega
theorem par_text (s : List UInt8) : ∀ (rest : List Sp) (t : Sp) (f n : Nat) (least : Int) (l : List Sp), s.drop n = oneT t ++ tailT rest → Nf (t :: rest) → least ≤ t.f0 → l.length + (rest.length + 1) ≤ 1024 → rest.length < f → parK s f n least l = some (l ++ t :: rest, 0, 0)
  | rest, t, 0, n, least, l, hd, hN, hle, hlen, hf => by omega
  | rest, t, f + 1, n, least, l, hd, hN, hle, hlen, hf => by
    have ht := hN.1 t (by simp)
    unfold okS at ht
    obtain ⟨a, ha⟩ := Int.eq_ofNat_of_zero_le ht.1
    obtain ⟨b, hb⟩ := Int.eq_ofNat_of_zero_le (show 0 ≤ t.f1 by omega)
    have hta : t.f0.toNat = a := by omega
    have htb : t.f1.toNat = b := by omega
    have hpa : 1 ≤ (digs 16 a).length := List.length_pos_iff.2 (digs_ne 16 a)
    have hpb : 1 ≤ (digs 16 b).length := List.length_pos_iff.2 (digs_ne 16 b)
    have het : t = ⟨(a : Int), (b : Int)⟩ := by cases t; simp only at ha hb; rw [ha, hb]
    unfold oneT at hd
    rw [hta, htb] at hd
    -- the end of the round
    have hend : ∀ (m : Nat) (X : Option (List Sp × Int × Int)), s.drop m = tailT rest → m ≤ s.length → (rest = [] → m = s.length) → (X = if m = s.length then some (l ++ [t], 0, 0) else if l.length + 1 = 1024 ∨ isAt s m 44 = false then some ([], (m : Int), 8) else parK s f (m + 1) (t.f1 + 2) (l ++ [t])) → X = some (l ++ t :: rest, 0, 0) := fun m X hm hml hnil hX => by
      rw [hX]
      cases rest with
      | nil => rw [if_pos (hnil rfl)]
      | cons u rest' =>
        have hm2 : s.drop m = 44 :: (oneT u ++ tailT rest') := by rw [hm]; unfold tailT; rw [List.flatMap_cons]; rfl
        have hlm := len_of_drop hm2 (by simp)
        have h44 : isAt s m 44 = true := by rw [isAt_drop, hm2]; rfl
        simp only [List.length_cons] at hlen hf hlm
        rw [if_neg (by omega), if_neg (by rw [h44]; intro e; rcases e with e | e; omega; cases e)]
        have hN2 : Nf (u :: rest') := ⟨fun x hx => hN.1 x (List.mem_cons_of_mem _ hx), (List.pairwise_cons.1 hN.2).2⟩
        have hut := (List.pairwise_cons.1 hN.2).1 u (by simp)
        have hd2 : s.drop (m + 1) = oneT u ++ tailT rest' := by rw [← List.drop_drop, hm2]; rfl
        rw [par_text s rest' u f (m + 1) (t.f1 + 2) (l ++ [t]) hd2 hN2 (by omega) (by rw [List.length_append]; simp only [List.length_cons, List.length_nil]; omega) (by omega)]
        simp
    unfold parK
    by_cases hne : t.f1 = t.f0
    · rw [if_pos hne, List.append_nil] at hd
      have hnum := numF_digs s n a (tailT rest) (by omega) hd (stop_tail rest)
      have hdn := drop_add s n (digs 16 a) (tailT rest) hd
      have hl := len_of_drop hd (by simp [digs_ne])
      rw [List.length_append] at hl
      have hab : a = b := by omega
      rw [hnum]
      simp only
      rw [if_neg (by omega)]
      have h45 : isAt s (n + (digs 16 a).length) 45 = false := by
        rw [isAt_drop, hdn]
        cases rest with
        | nil => rfl
        | cons u r' => unfold tailT; rw [List.flatMap_cons]; rfl
      rw [if_neg (by rw [h45]; decide)]
      refine hend (n + (digs 16 a).length) _ hdn (by omega) (fun e => by rw [e] at hl; simp [tailT] at hl; omega) ?_
      rw [het, ← hab]
    · rw [if_neg hne] at hd
      have hd1 : s.drop n = digs 16 a ++ (45 :: (digs 16 b ++ tailT rest)) := by rw [hd]; simp
      have hnum := numF_digs s n a _ (by omega) hd1 (stop_45 _)
      have hdn := drop_add s n (digs 16 a) _ hd1
      have hl := len_of_drop hd1 (by simp)
      rw [List.length_append, List.length_cons, List.length_append] at hl
      have hdn1 : s.drop (n + (digs 16 a).length + 1) = digs 16 b ++ tailT rest := by rw [← List.drop_drop, hdn]; rfl
      have hnum2 := numF_digs s (n + (digs 16 a).length + 1) b (tailT rest) (by omega) hdn1 (stop_tail rest)
      have hdn2 := drop_add s (n + (digs 16 a).length + 1) (digs 16 b) (tailT rest) hdn1
      rw [hnum]
      simp only
      rw [hnum2]
      simp only
      have h45 : isAt s (n + (digs 16 a).length) 45 = true := by rw [isAt_drop, hdn]; rfl
      rw [if_neg (by omega), if_pos h45, if_neg (by omega)]
      refine hend (n + (digs 16 a).length + 1 + (digs 16 b).length) _ hdn2 (by omega) (fun e => by rw [e] at hl; simp [tailT] at hl; omega) ?_
      rw [het]
theorem textL_len (m : List Sp) (h : ∀ s ∈ m, okS s) : (textL m).length ≤ 51 * m.length := by
  cases m with
  | nil => simp [textL]
  | cons s l =>
    have h1 := oneT_len s (h s (by simp))
    have h2 := tailT_len l (fun x hx => h x (List.mem_cons_of_mem _ hx))
    unfold textL
    rw [List.length_append]
    simp only [List.length_cons]
    omega
theorem oneT_ne (s : Sp) : oneT s ≠ [] := fun e => by
  unfold oneT at e
  exact digs_ne 16 _ (List.append_eq_nil_iff.1 e).1
theorem tailT_big : ∀ l : List Sp, l.length ≤ (tailT l).length
  | [] => by simp [tailT]
  | s :: l => by
    have := tailT_big l
    unfold tailT at this ⊢
    rw [List.flatMap_cons, List.length_append]
    simp only [List.length_cons]
    omega
/-- A normal form's text is read as it. -/
theorem parse_text (m : List Sp) (hN : Nf m) (hl : m.length ≤ 1024) : span_Parse.f (mkB (textL m)) = some (m, 0, 0) := by
  have hlen := textL_len m hN.1
  unfold span_Parse.f
  rw [mkB_size, data_mkB, if_pos (by omega)]
  cases m with
  | nil => rfl
  | cons t rest =>
    have hpos : 0 < (textL (t :: rest)).length := by unfold textL; rw [List.length_append]; have := List.length_pos_iff.2 (oneT_ne t); omega
    have hbig : rest.length ≤ (textL (t :: rest)).length := by unfold textL; rw [List.length_append]; have := tailT_big rest; omega
    have ht := hN.1 t (by simp)
    rw [if_neg (by omega), par_text (textL (t :: rest)) rest t _ 0 0 [] rfl hN ht.1 (by simp only [List.length_cons, List.length_nil] at *; omega) (by omega)]
    rfl
/-! what is read -/
theorem numK_canon : ∀ (r : Nat) (l : List UInt8) (v j v' j' : Nat), 0 < v → numK r l v j = (v', j') → ∃ ds R, l = ds ++ R ∧ j' = j + ds.length ∧ digs 16 v' = digs 16 v ++ ds
  | 0, l, v, j, v', j', h0, h => by cases h; exact ⟨[], l, rfl, rfl, by simp⟩
  | r + 1, [], v, j, v', j', h0, h => by cases h; exact ⟨[], [], rfl, rfl, by simp⟩
  | r + 1, c :: l, v, j, v', j', h0, h => by
    rw [numK, if_neg (by omega)] at h
    cases hc : hexl c with
    | none => rw [hc] at h; cases h; exact ⟨[], c :: l, rfl, rfl, by simp⟩
    | some d =>
      rw [hc] at h
      have hd := hexl_lt hc
      obtain ⟨ds, R, h1, h2, h3⟩ := numK_canon r l (v * 16 + d) (j + 1) v' j' (by omega) h
      refine ⟨c :: ds, R, by rw [h1]; rfl, by simp only [List.length_cons]; omega, ?_⟩
      rw [h3, digs_step (by decide) (by omega : 16 ≤ v * 16 + d), show (v * 16 + d) / 16 = v by omega, show (v * 16 + d) % 16 = d by omega, hexl_inv hc]
      simp
theorem numF_canon (s : List UInt8) (n v j : Nat) (h : numF s n = (v, j)) (hj : j ≠ 0) : s.drop n = digs 16 v ++ s.drop (n + j) := by
  unfold numF at h
  cases hl : s.drop n with
  | nil => rw [hl] at h; cases h; exact absurd rfl hj
  | cons c l =>
    rw [hl, numK, if_neg (by omega)] at h
    cases hc : hexl c with
    | none => rw [hc] at h; cases h; exact absurd rfl hj
    | some d =>
      rw [hc] at h
      have hd := hexl_lt hc
      simp only [Nat.zero_mul, Nat.zero_add] at h
      have hr : s.drop (n + j) = (c :: l).drop j := by rw [← List.drop_drop, hl]
      rw [hr]
      rcases Nat.eq_zero_or_pos d with rfl | h0
      · have : (v, j) = (0, 1) := by
          cases l with
          | nil => rw [← h]; rfl
          | cons c2 l2 => rw [numK, if_pos ⟨rfl, rfl⟩] at h; exact h.symm
        cases this
        rw [digs_small (by decide), hexl_inv hc]
        rfl
      · obtain ⟨ds, R, h1, h2, h3⟩ := numK_canon 5 l d 1 v j h0 h
        rw [h3, digs_small hd, h1, hexl_inv hc, h2, show 1 + ds.length = ds.length + 1 by omega]
        simp
theorem nf_cons {t : Sp} {M : List Sp} (h : Nf M) (ht : okS t) (hM : ∀ s ∈ M, t.f1 + 2 ≤ s.f0) : Nf (t :: M) :=
  ⟨fun x hx => by rcases List.mem_cons.1 hx with rfl | hx; exact ht; exact h.1 x hx, List.pairwise_cons.2 ⟨fun x hx => by have := hM x hx; omega, h.2⟩⟩
theorem textL_cons (t : Sp) (M : List Sp) (h : M ≠ []) : textL (t :: M) = oneT t ++ 44 :: textL M := by
  cases M with
  | nil => exact absurd rfl h
  | cons u M =>
    show oneT t ++ tailT (u :: M) = _
    unfold tailT
    rw [List.flatMap_cons]
    rfl
theorem par_back (s : List UInt8) : ∀ (f n : Nat) (least : Int) (l L : List Sp) (at_ e : Int), n ≤ s.length → 0 ≤ least → l.length < 1024 → parK s f n least l = some (L, at_, e) →
    (e = 0 ∧ at_ = 0 ∧ ∃ M, M ≠ [] ∧ L = l ++ M ∧ s.drop n = textL M ∧ Nf M ∧ (∀ t ∈ M, least ≤ t.f0) ∧ L.length ≤ 1024) ∨ (e = 8 ∧ L = [] ∧ 0 ≤ at_ ∧ at_ ≤ s.length)
  | 0, n, least, l, L, at_, e, hn, h0, hl, h => by cases h
  | f + 1, n, least, l, L, at_, e, hn, h0, hl, h => by
    unfold parK at h
    have hnj := numF_le s n hn
    obtain ⟨v, j, hvj⟩ : ∃ v j, numF s n = (v, j) := ⟨_, _, rfl⟩
    rw [hvj] at h hnj
    simp only at h hnj
    -- the end of a round
    have hend : ∀ (m hi : Nat), m ≤ s.length → v ≤ hi → hi ≤ 1114111 → least ≤ (v : Int) → s.drop n = oneT ⟨(v : Int), (hi : Int)⟩ ++ s.drop m → (if m = s.length then some (l ++ [(⟨(v : Int), (hi : Int)⟩ : Sp)], (0 : Int), (0 : Int)) else if l.length + 1 = 1024 ∨ isAt s m 44 = false then some ([], (m : Int), 8) else parK s f (m + 1) ((hi : Int) + 2) (l ++ [(⟨(v : Int), (hi : Int)⟩ : Sp)])) = some (L, at_, e) → (e = 0 ∧ at_ = 0 ∧ ∃ M, M ≠ [] ∧ L = l ++ M ∧ s.drop n = textL M ∧ Nf M ∧ (∀ t ∈ M, least ≤ t.f0) ∧ L.length ≤ 1024) ∨ (e = 8 ∧ L = [] ∧ 0 ≤ at_ ∧ at_ ≤ s.length) := fun m hi hm hvh hhi hlv hd hX => by
      have hok : okS (⟨(v : Int), (hi : Int)⟩ : Sp) := ⟨by simp only; omega, by simp only; omega, by simp only; omega⟩
      split at hX
      · next hms =>
        cases hX
        refine .inl ⟨rfl, rfl, [⟨(v : Int), (hi : Int)⟩], by simp, rfl, ?_, nf_cons ⟨fun x hx => (List.not_mem_nil hx).elim, List.Pairwise.nil⟩ hok (fun x hx => (List.not_mem_nil hx).elim), fun t ht => by rw [List.mem_singleton.1 ht]; exact hlv, by rw [List.length_append]; simp only [List.length_cons, List.length_nil]; omega⟩
        rw [hd, hms, List.drop_length]
        simp [textL, tailT]
      · next hms =>
        split at hX
        · cases hX
          exact .inr ⟨rfl, rfl, by omega, by omega⟩
        · next hc =>
          have h44 : isAt s m 44 = true := by cases h : isAt s m 44 with | true => rfl | false => exact absurd (.inr h) hc
          have hml := isAt_lt h44
          have hdm : s.drop m = 44 :: s.drop (m + 1) := by
            rw [List.drop_eq_getElem_cons hml]
            unfold isAt at h44
            rw [List.getElem?_eq_getElem hml] at h44
            rw [show s[m] = 44 from by simpa using h44]
          rcases par_back s f (m + 1) ((hi : Int) + 2) (l ++ [⟨(v : Int), (hi : Int)⟩]) L at_ e (by omega) (by omega) (by rw [List.length_append]; simp only [List.length_cons, List.length_nil]; omega) hX with ⟨h1, h2, M, h3, h4, h5, h6, h7, h8⟩ | h
          · refine .inl ⟨h1, h2, (⟨(v : Int), (hi : Int)⟩ : Sp) :: M, by simp, by rw [h4]; simp, ?_, nf_cons h6 hok h7, fun t ht => ?_, h8⟩
            · rw [hd, hdm, h5, textL_cons _ _ h3]
            · rcases List.mem_cons.1 ht with rfl | ht
              · exact hlv
              · have := h7 t ht; omega
          · exact .inr h
    split at h
    · cases h
      exact .inr ⟨rfl, rfl, by omega, by omega⟩
    · next c1 =>
      have hcan := numF_canon s n v j hvj (fun e => c1 (.inl e))
      split at h
      · next c2 =>
        have hlt := isAt_lt c2
        have hnj2 := numF_le s (n + j + 1) (by omega)
        obtain ⟨v2, j2, hvj2⟩ : ∃ v2 j2, numF s (n + j + 1) = (v2, j2) := ⟨_, _, rfl⟩
        rw [hvj2] at h hnj2
        simp only at h hnj2
        have hdm : s.drop (n + j) = 45 :: s.drop (n + j + 1) := by
          rw [List.drop_eq_getElem_cons hlt]
          unfold isAt at c2
          rw [List.getElem?_eq_getElem hlt] at c2
          rw [show s[n + j] = 45 from by simpa using c2]
        split at h
        · cases h
          exact .inr ⟨rfl, rfl, by omega, by omega⟩
        · next c3 =>
          have hcan2 := numF_canon s (n + j + 1) v2 j2 hvj2 (fun e => c3 (.inl e))
          refine hend (n + j + 1 + j2) v2 hnj2 (by omega) (by omega) (by omega) ?_ h
          unfold oneT
          simp only [Int.toNat_natCast]
          rw [if_neg (by omega), hcan, hdm, hcan2]
          simp
      · refine hend (n + j) v hnj (by omega) (by omega) (by omega) ?_ h
        unfold oneT
        simp only [Int.toNat_natCast]
        simp only [if_true, List.append_nil]
        exact hcan
/-- What Parse answers. -/
theorem parse_back (a : ByteArray) (L : List Sp) (at_ e : Int) (h : span_Parse.f a = some (L, at_, e)) : (e = 0 ∧ at_ = 0 ∧ a = mkB (textL L) ∧ Nf L ∧ L.length ≤ 1024) ∨ (e = 8 ∧ L = [] ∧ 0 ≤ at_ ∧ at_ ≤ a.size) := by
  unfold span_Parse.f at h
  have hl : a.data.toList.length = a.size := Array.length_toList
  split at h
  · split at h
    · next hs h0 =>
      cases h
      refine .inl ⟨rfl, rfl, ?_, ⟨fun x hx => (List.not_mem_nil hx).elim, List.Pairwise.nil⟩, by simp⟩
      rw [← mkB_data a, List.length_eq_zero_iff.1 (show a.data.toList.length = 0 by omega)]
      rfl
    · rcases par_back a.data.toList _ 0 0 [] L at_ e (by omega) (by omega) (by simp) h with ⟨h1, h2, M, h3, h4, h5, h6, h7, h8⟩ | ⟨h1, h2, h3, h4⟩
      · rw [List.nil_append] at h4
        rw [List.drop_zero] at h5
        subst h4
        exact .inl ⟨h1, h2, by rw [← h5, mkB_data], h6, h8⟩
      · exact .inr ⟨h1, h2, h3, by omega⟩
  · cases h
end Go.Proofs.YtikhoooiklkbiaaDoor.Pr
