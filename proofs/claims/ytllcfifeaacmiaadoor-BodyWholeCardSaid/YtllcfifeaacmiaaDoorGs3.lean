import Derived.Test.YtllcfifeaacmiaaDoorEv
import Derived.Test.YtllcfifeaacmiaaDoorRu
import Derived.Test.YtllcfifeaacmiaaDoorPrA3
import Derived.Lib.CutLaws
import Derived.Lib.Strings
import Derived.Lib.IndexBytes
import Derived.Test.YtllcfifeaacmiaaDoorRtr
import Derived.Test.YtllcfifeaacmiaaDoorPrB1
import Derived.Test.YtllcfifeaacmiaaDoorPrA4
namespace Go.Proofs.YtllcfifeaacmiaaDoor.Pr
open Go.RowKit Go.Proofs.YtllcfifeaacmiaaDoorW.PrintWords Go.Proofs.YtllcfifeaacmiaaDoorW.PrintLast Go.Proofs.YtllcfifeaacmiaaDoorW.PrintMore
set_option linter.unusedVariables false
set_option linter.unusedSimpArgs false

/-! ### The line with a size, plainly -/
def hexD (c : UInt8) : Option Nat := if 48 ≤ c.toNat ∧ c.toNat ≤ 57 then some (c.toNat - 48) else if 97 ≤ c.toNat ∧ c.toNat ≤ 102 then some (c.toNat - 87) else if 65 ≤ c.toNat ∧ c.toNat ≤ 70 then some (c.toNat - 55) else none
theorem hexD_lt {c : UInt8} {v : Nat} (h : hexD c = some v) : v < 16 := by
  unfold hexD at h
  split at h
  · injection h; omega
  · split at h
    · injection h; omega
    · split at h
      · injection h; omega
      · cases h
theorem valI_some {c : UInt8} {v : Nat} (h : hexD c = some v) : valI c = (v : Int) := by
  unfold hexD at h
  unfold valI
  split at h
  · rw [if_pos (by assumption)]; injection h; omega
  · rw [if_neg (by assumption)]
    split at h
    · rw [if_pos (by assumption)]; injection h; omega
    · rw [if_neg (by assumption)]
      split at h
      · rw [if_pos (by assumption)]; injection h; omega
      · cases h
theorem valI_none {c : UInt8} (h : hexD c = none) : valI c = 16 := by
  unfold hexD at h
  unfold valI
  split at h
  · cases h
  · rw [if_neg (by assumption)]
    split at h
    · cases h
    · rw [if_neg (by assumption)]
      split at h
      · cases h
      · rw [if_neg (by assumption)]
def extOk (c : UInt8) : Bool := (decide (32 ≤ c.toNat) || decide (c.toNat = 9)) && !decide (c.toNat = 127)
def tl3 (n : Nat) (rest : List UInt8) : Nat × Bool × Bool := (n, decide (rest = []) || decide (rest = [13]) || decide (rest = [13, 10]), decide (rest = [13, 10]))
def begG : Nat → Nat → List UInt8 → Nat × Bool × Bool
  | _, n, [] => (n, true, false)
  | i, n, c :: r => match hexD c with
    | some v => if 8 ≤ i then (0, false, false) else begG (i + 1) (n * 16 + v) r
    | none => if i = 0 then (0, false, false) else if c = 59 then tl3 n (r.dropWhile extOk) else tl3 n (c :: r)
inductive Ph | dg (i n : Nat) | ex (n : Nat) | sz (n : Nat)
inductive St1 | bad | go (p : Ph) | done (n : Nat)
def stepPh : Ph → UInt8 → St1
  | .dg i n, c => match hexD c with
    | some v => if 8 ≤ i then .bad else .go (.dg (i + 1) (n * 16 + v))
    | none => if i = 0 then .bad else if c = 59 then .go (.ex n) else if c = 13 then .go (.sz n) else .bad
  | .ex n, c => if c = 13 then .go (.sz n) else if extOk c then .go (.ex n) else .bad
  | .sz n, c => if c = 10 then .done n else .bad
/-- Digits, at most 8. -/
def dgs (i n : Nat) : List UInt8 → Nat → Nat → Prop
  | [], j, m => j = i ∧ m = n
  | c :: r, j, m => ∃ v, hexD c = some v ∧ i < 8 ∧ dgs (i + 1) (n * 16 + v) r j m
def PhOf (p : List UInt8) : Ph → Prop
  | .dg i n => dgs 0 0 p i n
  | .ex n => ∃ d e i, p = d ++ 59 :: e ∧ dgs 0 0 d i n ∧ 0 < i ∧ e.all extOk = true
  | .sz n => (∃ d i, p = d ++ [13] ∧ dgs 0 0 d i n ∧ 0 < i) ∨ (∃ d e i, p = d ++ 59 :: (e ++ [13]) ∧ dgs 0 0 d i n ∧ 0 < i ∧ e.all extOk = true)
theorem begG_dgs : ∀ (d : List UInt8) (i n j m : Nat) (t : List UInt8), dgs i n d j m → begG i n (d ++ t) = begG j m t
  | [], i, n, j, m, t, h => by obtain ⟨rfl, rfl⟩ := h; rfl
  | c :: r, i, n, j, m, t, h => by
    obtain ⟨v, hv, hi, h⟩ := h
    rw [List.cons_append]
    conv => lhs; unfold begG
    rw [hv]
    simp only [if_neg (show ¬ 8 ≤ i by omega)]
    exact begG_dgs r _ _ j m t h
theorem dgs_snoc : ∀ (d : List UInt8) (i n j m : Nat) (c : UInt8) (v : Nat), dgs i n d j m → hexD c = some v → j < 8 → dgs i n (d ++ [c]) (j + 1) (m * 16 + v)
  | [], i, n, j, m, c, v, h, hv, hj => by obtain ⟨rfl, rfl⟩ := h; exact ⟨v, hv, hj, rfl, rfl⟩
  | a :: r, i, n, j, m, c, v, h, hv, hj => by
    obtain ⟨u, hu, hi, h⟩ := h
    exact ⟨u, hu, hi, dgs_snoc r _ _ j m c v h hv hj⟩
theorem dgs_bound : ∀ (d : List UInt8) (i n j m : Nat), dgs i n d j m → n < 16 ^ i → i ≤ 8 → m < 16 ^ j ∧ j ≤ 8
  | [], i, n, j, m, h, hn, hi => by obtain ⟨rfl, rfl⟩ := h; exact ⟨hn, hi⟩
  | c :: r, i, n, j, m, h, hn, hi => by
    obtain ⟨v, hv, h8, h⟩ := h
    refine dgs_bound r _ _ j m h ?_ (by omega)
    have := hexD_lt hv
    rw [Nat.pow_succ]
    omega
theorem dropWhile_all (e : List UInt8) (t : List UInt8) (h : e.all extOk = true) : (e ++ t).dropWhile extOk = t.dropWhile extOk := by
  induction e with
  | nil => rfl
  | cons a l ih =>
    rw [List.all_cons, Bool.and_eq_true] at h
    rw [List.cons_append, List.dropWhile_cons, if_pos h.1]
    exact ih h.2
theorem hexD_59 : hexD 59 = none := by decide
theorem hexD_13 : hexD 13 = none := by decide
theorem extOk_13 : extOk 13 = false := by decide
theorem st_dg_some {i n : Nat} {c : UInt8} {v : Nat} (h : hexD c = some v) : stepPh (.dg i n) c = if 8 ≤ i then .bad else .go (.dg (i + 1) (n * 16 + v)) := by unfold stepPh; simp only [h]
theorem st_dg_none {i n : Nat} {c : UInt8} (h : hexD c = none) : stepPh (.dg i n) c = if i = 0 then .bad else if c = 59 then .go (.ex n) else if c = 13 then .go (.sz n) else .bad := by unfold stepPh; simp only [h]
theorem begG_some {i n : Nat} {c : UInt8} {r : List UInt8} {v : Nat} (h : hexD c = some v) : begG i n (c :: r) = if 8 ≤ i then (0, false, false) else begG (i + 1) (n * 16 + v) r := by
  conv => lhs; unfold begG
  simp only [h]
theorem begG_none {i n : Nat} {c : UInt8} {r : List UInt8} (h : hexD c = none) : begG i n (c :: r) = if i = 0 then (0, false, false) else if c = 59 then tl3 n (r.dropWhile extOk) else tl3 n (c :: r) := by
  conv => lhs; unfold begG
  simp only [h]
/-- What one byte more tells of the beginning of a line. -/
def Tells (p : List UInt8) (c : UInt8) : St1 → Prop
  | .bad => (begG 0 0 (p ++ [c])).2.1 = false
  | .go ph' => ∃ n, begG 0 0 (p ++ [c]) = (n, true, false) ∧ PhOf (p ++ [c]) ph'
  | .done n => begG 0 0 (p ++ [c]) = (n, true, true)
theorem begG_step (p : List UInt8) (ph : Ph) (c : UInt8) (h : PhOf p ph) : Tells p c (stepPh ph c) := by
  cases ph with
  | dg i n =>
    have h1 := begG_dgs p 0 0 i n [c] h
    have hb := dgs_bound p 0 0 i n h (by decide) (by decide)
    cases hv : hexD c with
    | some v =>
      rw [st_dg_some hv]
      rw [begG_some hv] at h1
      by_cases h8 : 8 ≤ i
      · rw [if_pos h8] at h1 ⊢
        show (begG 0 0 (p ++ [c])).2.1 = false
        rw [h1]
      · rw [if_neg h8] at h1 ⊢
        exact ⟨n * 16 + v, h1, dgs_snoc p 0 0 i n c v h hv (by omega)⟩
    | none =>
      rw [st_dg_none hv]
      rw [begG_none hv] at h1
      by_cases h0 : i = 0
      · rw [if_pos h0] at h1 ⊢
        show (begG 0 0 (p ++ [c])).2.1 = false
        rw [h1]
      · rw [if_neg h0] at h1 ⊢
        by_cases h59 : c = 59
        · rw [if_pos h59] at h1 ⊢
          exact ⟨n, h1, p, [], i, by rw [h59], h, by omega, rfl⟩
        · rw [if_neg h59] at h1 ⊢
          by_cases h13 : c = 13
          · rw [if_pos h13]
            exact ⟨n, by rw [h1, h13]; rfl, .inl ⟨p, i, by rw [h13], h, by omega⟩⟩
          · rw [if_neg h13]
            show (begG 0 0 (p ++ [c])).2.1 = false
            rw [h1]
            unfold tl3
            simp [h13]
  | ex n =>
    obtain ⟨d, e, i, rfl, hd, hi, he⟩ := h
    have h1 : begG 0 0 ((d ++ 59 :: e) ++ [c]) = tl3 n ([c].dropWhile extOk) := by
      rw [List.append_assoc, List.cons_append, begG_dgs d 0 0 i n _ hd]
      unfold begG
      rw [hexD_59]
      simp only [if_neg (show ¬ i = 0 by omega), if_true]
      rw [dropWhile_all e [c] he]
    unfold stepPh
    by_cases h13 : c = 13
    · simp only [if_pos h13]
      show ∃ n', _
      refine ⟨n, ?_, .inr ⟨d, e, i, by rw [h13]; simp, hd, hi, he⟩⟩
      rw [h1, h13]; rfl
    · simp only [if_neg h13]
      by_cases hx : extOk c = true
      · simp only [if_pos hx]
        show ∃ n', _
        refine ⟨n, ?_, d, e ++ [c], i, by simp, hd, hi, by rw [List.all_append, he]; simp [hx]⟩
        rw [h1, List.dropWhile_cons, if_pos hx]; rfl
      · simp only [if_neg hx]
        show (begG 0 0 ((d ++ 59 :: e) ++ [c])).2.1 = false
        rw [h1, List.dropWhile_cons, if_neg hx]
        unfold tl3
        simp [h13]
  | sz n =>
    have h1 : begG 0 0 (p ++ [c]) = tl3 n [13, c] := by
      rcases h with ⟨d, i, rfl, hd, hi⟩ | ⟨d, e, i, rfl, hd, hi, he⟩
      · rw [List.append_assoc, begG_dgs d 0 0 i n _ hd]
        rw [List.singleton_append]
        unfold begG
        rw [hexD_13]
        simp only [if_neg (show ¬ i = 0 by omega)]
        rfl
      · have e1 : d ++ 59 :: (e ++ [13]) ++ [c] = d ++ 59 :: (e ++ [13, c]) := by simp
        rw [e1, begG_dgs d 0 0 i n _ hd]
        unfold begG
        rw [hexD_59]
        simp only [if_neg (show ¬ i = 0 by omega), if_true]
        rw [dropWhile_all e [13, c] he, List.dropWhile_cons, if_neg (by rw [extOk_13]; decide)]
    unfold stepPh
    by_cases h10 : c = 10
    · simp only [if_pos h10]
      show begG 0 0 (p ++ [c]) = _
      rw [h1, h10]; rfl
    · simp only [if_neg h10]
      show (begG 0 0 (p ++ [c])).2.1 = false
      rw [h1]
      unfold tl3
      simp [h10]
/-- size: over the bytes that stand ahead. -/
def szG (p : List UInt8) : List UInt8 → Nat × Nat × Nat × Int
  | [] => (0, 0, p.length, 0)
  | c :: r => if c ≠ 10 ∧ 4097 < p.length + 1 then (0, 0, p.length + 1, 195) else
    if (begG 0 0 (p ++ [c])).2.1 = false then (0, 0, p.length + 1, 200) else
    if (begG 0 0 (p ++ [c])).2.2 = true then (p.length + 1, (begG 0 0 (p ++ [c])).1, p.length + 1, 0) else szG (p ++ [c]) r
def szM : Ph → Nat → List UInt8 → Nat × Nat × Nat × Int
  | _, l, [] => (0, 0, l, 0)
  | ph, l, c :: r => if c ≠ 10 ∧ 4097 < l + 1 then (0, 0, l + 1, 195) else match stepPh ph c with
    | .bad => (0, 0, l + 1, 200)
    | .go ph' => szM ph' (l + 1) r
    | .done n => (l + 1, n, l + 1, 0)
theorem szG_M : ∀ (s p : List UInt8) (ph : Ph), PhOf p ph → szG p s = szM ph p.length s
  | [], p, ph, h => rfl
  | c :: r, p, ph, h => by
    unfold szG szM
    split
    · rfl
    · have := begG_step p ph c h
      cases hs : stepPh ph c with
      | bad => rw [hs] at this; rw [if_pos (show (begG 0 0 (p ++ [c])).2.1 = false from this)]
      | go ph' =>
        rw [hs] at this
        obtain ⟨n, h1, h2⟩ := this
        rw [h1]
        simp only [if_neg (show ¬ (true = false) by decide), if_neg (show ¬ (false = true) by decide)]
        rw [szG_M r (p ++ [c]) ph' h2, List.length_append]
        rfl
      | done n =>
        rw [hs] at this
        have this : begG 0 0 (p ++ [c]) = (n, true, true) := this
        rw [this]
        simp only [if_neg (show ¬ (true = false) by decide), if_true]
end Go.Proofs.YtllcfifeaacmiaaDoor.Pr
namespace Go.Proofs.YtllcfifeaacmiaaDoor.Pr
open Go.RowKit Go.Proofs.YtllcfifeaacmiaaDoorW.PrintWords Go.Proofs.YtllcfifeaacmiaaDoorW.PrintLast Go.Proofs.YtllcfifeaacmiaaDoorW.PrintMore
set_option linter.unusedVariables false
set_option linter.unusedSimpArgs false

theorem u8ne {c d : UInt8} (n : Int) (hd : (d.toNat : Int) = n) (h : c ≠ d) : ¬ (c.toNat : Int) = n := fun e => h (UInt8.toNat_inj.1 (by omega))
/-! ### The reference's begins and size are those -/
theorem Ev.of_mono {α : Type} {f : Nat → Option α} {r : α} (hm : ∀ k, LeO (f k) (f (k + 1))) (K : Nat) (h : f K = some r) : Ev f r := by
  refine ⟨K, fun k hk => ?_⟩
  induction k with
  | zero => obtain rfl : K = 0 := by omega
            exact h
  | succ k ih =>
    by_cases e : K = k + 1
    · rw [← e]; exact h
    · exact hm k _ (ih (by omega))
theorem bt_mkB (s : List UInt8) (i : Nat) (h : i < s.length) : bt (mkB s) (i : Int) = (s[i].toNat : Int) := by
  have hs : (i : Int).toNat < (mkB s).size := by rw [mkB_size]; exact h
  rw [← bt_at (mkB s) (i : Int) hs]
  have e : (mkB s).data.toList[i]? = some ((mkB s)[(i : Int).toNat]'hs) := by
    have := Lib.data_getElem? (mkB s) i (by rw [mkB_size]; exact h)
    exact this
  rw [data_mkB, List.getElem?_eq_getElem h] at e
  rw [← Option.some.inj e]
theorem bt_app (p : List UInt8) (c : UInt8) (r : List UInt8) (i : Nat) (h : p.length = i) : bt (mkB (p ++ c :: r)) (i : Int) = (c.toNat : Int) := by
  rw [bt_mkB _ i (by simp; omega)]
  simp [List.getElem_append_right (show p.length ≤ i by omega), h]
theorem ext_app (p r : List UInt8) (i : Nat) (h : p.length = i) : ((mkB (p ++ r)).extract i (mkB (p ++ r)).size).toList = r := by
  rw [Lib.toList_data]
  have : (mkB (p ++ r)).extract i (mkB (p ++ r)).size = mkB r := by
    apply ByteArray.ext
    rw [ByteArray.data_extract]
    unfold mkB
    subst h
    simp [ByteArray.size]
  rw [this, data_mkB]
def dgI (o : Option Nat) : Int := match o with | some v => (v : Int) | none => -1
theorem dig_all : ((List.range 256).all fun n => decide (portcullisref20_digit.f 6 (n : Int) = some (dgI (hexD (UInt8.ofNat n))))) = true := by decide +kernel
theorem dig_is (c : UInt8) : Ev (fun k => portcullisref20_digit.f k (c.toNat : Int)) (dgI (hexD c)) := by
  have := of_decide_eq_true (List.all_eq_true.1 dig_all c.toNat (List.mem_range.2 (UInt8.toNat_lt c)))
  rw [UInt8.ofNat_toNat] at this
  exact Ev.of_mono (fun k => portcullisref20_digit.mono _ k) 6 this
def castB (x : Nat × Bool × Bool) : Int × Bool × Bool := ((x.1 : Int), x.2.1, x.2.2)
theorem tl3_is (n : Nat) (X : List UInt8) : (if X = ([] : List UInt8) then (some ((n : Int), true, (X == ([13, 10] : List UInt8)))) else (if X = ([13] : List UInt8) then (some ((n : Int), true, (X == ([13, 10] : List UInt8)))) else (some ((n : Int), (X == ([13, 10] : List UInt8)), (X == ([13, 10] : List UInt8)))))) = some (castB (tl3 n X)) := by
  unfold tl3 castB
  by_cases h1 : X = []
  · subst h1; rfl
  · rw [if_neg h1]
    by_cases h2 : X = [13]
    · subst h2; rfl
    · rw [if_neg h2]
      simp only [decide_eq_false h1, decide_eq_false h2, Bool.false_or]
      by_cases h3 : X = [13, 10]
      · subst h3; rfl
      · rw [beq_eq_false_iff_ne.2 h3, decide_eq_false h3]
theorem beg_ext (n : Nat) : ∀ (u q : List UInt8) (j : Nat), q.length = j → (q ++ u).length ≤ 100000 → Ev (fun k => portcullisref20_begins.l1 k (mkB (q ++ u)) (n : Int) (j : Int)) (castB (tl3 n (u.dropWhile extOk)))
  | [], q, j, hj, hl => by
    refine Ev.one (fun k => ?_)
    simp only [portcullisref20_begins.l1]
    have hsz : (mkB (q ++ [])).size = j := by rw [mkB_size, List.append_nil, hj]
    have hx := ext_app q [] j hj
    rw [if_neg (by rw [hsz]; omega), if_pos (by omega), if_pos (by rw [hsz]; omega), Int.toNat_natCast, hx]
    exact tl3_is n []
  | c :: t, q, j, hj, hl => by
    have hsz : ((mkB (q ++ c :: t)).size : Int) = (j : Int) + (t.length : Int) + 1 := by rw [mkB_size]; simp; omega
    have hx := ext_app q (c :: t) j hj
    have hb := bt_app q c t j hj
    have hlen : j + t.length + 1 ≤ 100000 := by simp at hl; omega
    have hw : wrap64 ((j : Int) + 1) = ((j + 1 : Nat) : Int) := w64n j (by omega)
    by_cases hk : extOk c = true
    · have ih := beg_ext n t (q ++ [c]) (j + 1) (by simp; omega) (by simpa using hl)
      rw [List.append_assoc, List.singleton_append] at ih
      rw [List.dropWhile_cons, if_pos hk]
      refine Ev.step (fun k => ?_) ih
      simp only [portcullisref20_begins.l1]
      rw [if_pos (by omega), if_pos (by omega), hb, hw]
      unfold extOk at hk
      simp only [Bool.and_eq_true, Bool.or_eq_true, decide_eq_true_eq, Bool.not_eq_true', decide_eq_false_iff_not] at hk
      by_cases h32 : (c.toNat : Int) ≥ 32
      · rw [if_pos h32, if_neg (by omega)]
      · rw [if_neg h32, if_pos (by omega), if_neg (by omega)]
    · rw [List.dropWhile_cons, if_neg hk]
      refine Ev.one (fun k => ?_)
      simp only [portcullisref20_begins.l1]
      rw [if_pos (by omega), if_pos (by omega), hb]
      unfold extOk at hk
      simp only [Bool.and_eq_true, Bool.or_eq_true, decide_eq_true_eq, Bool.not_eq_true', decide_eq_false_iff_not] at hk
      have hin : (j : Int) ≤ ((mkB (q ++ c :: t)).size : Int) := by omega
      simp only [Int.toNat_natCast, hx, if_pos hin, tl3_is]
      by_cases h32 : (c.toNat : Int) ≥ 32
      · rw [if_pos h32, if_pos (by omega)]
      · rw [if_neg h32]
        by_cases h9 : (c.toNat : Int) = 9
        · exfalso; exact hk ⟨.inr (by omega), by omega⟩
        · rw [if_neg h9]
theorem dg_pos (v : Nat) : decide (dgI (some v) ≥ 0) = true := decide_eq_true (Int.natCast_nonneg v)
theorem dg_neg : decide (dgI none ≥ 0) = false := by decide
theorem w64m (n : Nat) (h : n < 4294967296) : wrap64 ((n : Int) * 16) = ((n * 16 : Nat) : Int) := by
  rw [show (n : Int) * 16 = ((n * 16 : Nat) : Int) by omega]; exact w64c _ (by omega)
theorem w64v (n v : Nat) (hv : v < 16) (h : n < 4294967296) : wrap64 (((n * 16 : Nat) : Int) + dgI (some v)) = ((n * 16 + v : Nat) : Int) := by
  rw [show ((n * 16 : Nat) : Int) + dgI (some v) = ((n * 16 + v : Nat) : Int) by show _ + (v : Int) = _; omega]; exact w64c _ (by omega)
theorem beg_none (c : UInt8) (t p : List UInt8) (i n : Nat) (hi : p.length = i) (hl : (p ++ c :: t).length ≤ 100000) (hv : hexD c = none) : Ev (fun k => portcullisref20_begins.j1 k (mkB (p ++ c :: t)) (n : Int) (i : Int) (decide (dgI none ≥ 0))) (castB (if i = 0 then (0, false, false) else if c = 59 then tl3 n (t.dropWhile extOk) else tl3 n (c :: t))) := by
  have hlen : i + t.length + 1 ≤ 100000 := by simp at hl; omega
  have hsz : ((mkB (p ++ c :: t)).size : Int) = (i : Int) + (t.length : Int) + 1 := by rw [mkB_size]; simp; omega
  have hb := bt_app p c t i hi
  have hx := ext_app p (c :: t) i hi
  have q1 : (i : Int) < ((mkB (p ++ c :: t)).size : Int) := by omega
  have q2 : (0 : Int) ≤ (i : Int) := by omega
  have q3 : ¬ (i : Int) = ((mkB (p ++ c :: t)).size : Int) := by omega
  have q4 : (i : Int) ≤ ((mkB (p ++ c :: t)).size : Int) := by omega
  have q5 : ∀ h : ¬ i = 0, ¬ (i : Int) = 0 := fun h => by omega
  have hw : wrap64 ((i : Int) + 1) = ((i + 1 : Nat) : Int) := w64n i (by omega)
  rw [dg_neg]
  by_cases h0 : i = 0
  · rw [if_pos h0]
    refine Ev.one (fun k => ?_)
    simp only [portcullisref20_begins.j1]
    rw [if_neg (by decide), if_neg q3, if_pos (by rw [h0]; rfl)]
    rfl
  · rw [if_neg h0]
    by_cases h59 : c = 59
    · rw [if_pos h59]
      have hp1 : (p ++ [c]).length = i + 1 := by rw [List.length_append, hi]; rfl
      have ih := beg_ext n t (p ++ [c]) (i + 1) hp1 (by rw [List.append_assoc]; exact hl)
      rw [List.append_assoc, List.singleton_append] at ih
      refine Ev.step (fun k => ?_) ih
      simp only [portcullisref20_begins.j1]
      rw [if_neg (by decide), if_neg q3, if_neg (q5 h0), if_pos q2, if_pos q1, hb, if_pos (by rw [h59]; rfl), hw]
    · rw [if_neg h59]
      refine Ev.one (fun k => ?_)
      simp only [portcullisref20_begins.j1]
      rw [if_neg (by decide), if_neg q3, if_neg (q5 h0), if_pos q2, if_pos q1, hb, if_neg (u8ne 59 rfl h59), if_pos q4, Int.toNat_natCast, hx]
      exact tl3_is n _
theorem beg_go : ∀ (r p : List UInt8) (i n : Nat), p.length = i → i ≤ 8 → n < 16 ^ i → (p ++ r).length ≤ 100000 → Ev (fun k => portcullisref20_begins.l0 k (mkB (p ++ r)) (n : Int) (i : Int)) (castB (begG i n r))
  | [], p, i, n, hi, h8, hn, hl => by
    have hsz : (mkB (p ++ [])).size = i := by rw [mkB_size, List.append_nil, hi]
    refine Ev.step (f := fun k => portcullisref20_begins.j1 k (mkB (p ++ [])) (n : Int) (i : Int) false) (fun k => ?_) (Ev.one (fun k => ?_))
    · simp only [portcullisref20_begins.l0]
      rw [if_neg (by rw [hsz]; omega)]
    · simp only [portcullisref20_begins.j1]
      rw [if_neg (by decide), if_pos (by rw [hsz])]
      rfl
  | c :: t, p, i, n, hi, h8, hn, hl => by
    have hsz : ((mkB (p ++ c :: t)).size : Int) = (i : Int) + (t.length : Int) + 1 := by rw [mkB_size]; simp; omega
    have hb := bt_app p c t i hi
    have hx := ext_app p (c :: t) i hi
    have hn_ : ∀ v, v < 16 → n * 16 + v < 16 ^ (i + 1) := fun v hv => by rw [Nat.pow_succ]; omega
    have h9 : ¬ 8 ≤ i → ¬ ((i + 1 : Nat) : Int) > 8 := fun h => by omega
    have h9' : 8 ≤ i → ((i + 1 : Nat) : Int) > 8 := fun h => by omega
    have q1 : (i : Int) < ((mkB (p ++ c :: t)).size : Int) := by omega
    have q2 : (0 : Int) ≤ (i : Int) := by omega
    have q3 : ¬ (i : Int) = ((mkB (p ++ c :: t)).size : Int) := by omega
    have q4 : (i : Int) ≤ ((mkB (p ++ c :: t)).size : Int) := by omega
    have q5 : ∀ h : ¬ i = 0, ¬ (i : Int) = 0 := fun h => by omega
    have hw : wrap64 ((i : Int) + 1) = ((i + 1 : Nat) : Int) := w64n i (by omega)
    have h16 : n < 4294967296 := Nat.lt_of_lt_of_le hn (Nat.pow_le_pow_right (by decide) h8)
    have hlen : i + t.length + 1 ≤ 100000 := by simp at hl; omega
    refine Ev.step (f := fun k => (portcullisref20_digit.f k (c.toNat : Int)).bind fun t109 => portcullisref20_begins.j1 k (mkB (p ++ c :: t)) (n : Int) (i : Int) (decide (t109 ≥ 0))) (fun k => ?_) (Ev.bind (dig_is c) ?_)
    · simp only [portcullisref20_begins.l0]
      rw [if_pos q1, if_pos q2, hb]
    · cases hv : hexD c with
      | some v =>
        rw [begG_some hv]
        have hn2 : n * 16 + v < 16 ^ (i + 1) := hn_ v (hexD_lt hv)
        have hw3 : wrap64 (((n * 16 : Nat) : Int) + dgI (some v)) = ((n * 16 + v : Nat) : Int) := w64v n v (hexD_lt hv) h16
        have hw2 : wrap64 ((n : Int) * 16) = ((n * 16 : Nat) : Int) := w64m n h16
        rw [dg_pos]
        refine Ev.step (f := fun k => (portcullisref20_digit.f k (c.toNat : Int)).bind fun t110 => (if (wrap64 ((i : Int) + 1)) > 8 then (some (0, false, false)) else (portcullisref20_begins.l0 k (mkB (p ++ c :: t)) (wrap64 ((wrap64 ((n : Int) * 16)) + t110)) (wrap64 ((i : Int) + 1))))) (fun k => ?_) (Ev.bind (dig_is c) ?_)
        · simp only [portcullisref20_begins.j1]
          rw [if_pos True.intro, if_pos q2, if_pos q1, hb]
        · rw [hv, hw]
          by_cases h8' : 8 ≤ i
          · rw [if_pos h8']
            exact Ev.now fun k => by rw [if_pos (h9' h8')]; rfl
          · rw [if_neg h8']
            have hp1 : (p ++ [c]).length = i + 1 := by rw [List.length_append, hi]; rfl
            have hl2 : ((p ++ [c]) ++ t).length ≤ 100000 := by rw [List.append_assoc]; exact hl
            have ih := beg_go t (p ++ [c]) (i + 1) (n * 16 + v) hp1 (Nat.lt_of_not_le h8') hn2 hl2
            rw [List.append_assoc, List.singleton_append] at ih
            refine Ev.of_eq (fun k => ?_) ih
            rw [if_neg (h9 h8'), hw2, hw3]
      | none =>
        rw [begG_none hv]
        exact beg_none c t p i n hi hl hv
theorem beg_is (s : List UInt8) (hl : s.length ≤ 100000) : Ev (fun k => portcullisref20_begins.f k (mkB s)) (castB (begG 0 0 s)) := beg_go s [] 0 0 rfl (by decide) (by decide) hl
def castZ (x : Nat × Nat × Nat × Int) : Int × Int × Int × Int := ((x.1 : Int), (x.2.1 : Int), (x.2.2.1 : Int), x.2.2.2)
theorem mkB_pre (p t : List UInt8) (i : Nat) (h : p.length = i) : (mkB (p ++ t)).extract 0 i = mkB p := by
  apply ByteArray.ext
  rw [ByteArray.data_extract]
  unfold mkB
  subst h
  simp
theorem size_go : ∀ (r p : List UInt8), (p ++ r).length ≤ 100000 → Ev (fun k => portcullisref20_size.l0 k (mkB (p ++ r)) ((p.length + 1 : Nat) : Int)) (castZ (szG p r))
  | [], p, hl => by
    refine Ev.one (fun k => ?_)
    simp only [portcullisref20_size.l0]
    have hsz : (mkB (p ++ [])).size = p.length := by rw [mkB_size, List.append_nil]
    rw [if_neg (by rw [hsz]; omega), hsz]
    rfl
  | c :: t, p, hl => by
    have hsz : ((mkB (p ++ c :: t)).size : Int) = (p.length : Int) + (t.length : Int) + 1 := by rw [mkB_size]; simp; omega
    have hb := bt_app p c t p.length rfl
    have hlen : p.length + t.length + 1 ≤ 100000 := by simp at hl; omega
    have hw0 : wrap64 (((p.length + 1 : Nat) : Int) - 1) = (p.length : Int) := by rw [show ((p.length + 1 : Nat) : Int) - 1 = (p.length : Int) by omega]; exact w64c _ (by omega)
    have hw1 : wrap64 (((p.length + 1 : Nat) : Int) + 1) = ((p.length + 1 + 1 : Nat) : Int) := w64n _ (by omega)
    have hpre : (mkB (p ++ c :: t)).extract 0 (p.length + 1) = mkB (p ++ [c]) := by
      have := mkB_pre (p ++ [c]) t (p.length + 1) (by simp)
      rw [List.append_assoc, List.singleton_append] at this
      exact this
    have ih := size_go t (p ++ [c]) (by simpa using hl)
    rw [List.append_assoc, List.singleton_append] at ih
    have key : Ev (fun k => portcullisref20_size.l0 k (mkB (p ++ c :: t)) ((p.length + 1 : Nat) : Int)) (castZ (szG p (c :: t))) ↔ True := ⟨fun _ => trivial, fun _ => by
      by_cases hm : c ≠ 10 ∧ 4097 < p.length + 1
      · unfold szG
        rw [if_pos hm]
        refine Ev.step (f := fun k => portcullisref20_size.j1 k (mkB (p ++ c :: t)) ((p.length + 1 : Nat) : Int) true) (fun k => ?_) (Ev.one fun k => ?_)
        · simp only [portcullisref20_size.l0]
          rw [if_pos (by omega), hw0, if_pos (by omega), if_pos (by omega), hb, if_neg (u8ne 10 rfl hm.1), decide_eq_true (by omega)]
        · simp only [portcullisref20_size.j1]
          rw [if_pos True.intro]
          rfl
      · refine Ev.step (f := fun k => portcullisref20_size.j1 k (mkB (p ++ c :: t)) ((p.length + 1 : Nat) : Int) false) (fun k => ?_) ?_
        · simp only [portcullisref20_size.l0]
          rw [if_pos (by omega), hw0, if_pos (by omega), if_pos (by omega), hb]
          by_cases h10 : c = 10
          · rw [if_pos (by rw [h10]; rfl)]
          · rw [if_neg (u8ne 10 rfl h10), decide_eq_false (by have := Nat.le_of_not_lt (fun h => hm ⟨h10, h⟩); omega)]
        · refine Ev.step (f := fun k => (portcullisref20_begins.f k (mkB (p ++ [c]))).bind fun bt111 => (if bt111.2.1 = true then (if bt111.2.2 = true then (some (((p.length + 1 : Nat) : Int), bt111.1, ((p.length + 1 : Nat) : Int), 0)) else (portcullisref20_size.l0 k (mkB (p ++ c :: t)) (wrap64 (((p.length + 1 : Nat) : Int) + 1)))) else (some (0, 0, ((p.length + 1 : Nat) : Int), 200)))) (fun k => ?_) (Ev.bind (beg_is (p ++ [c]) (by simp; omega)) ?_)
          · simp only [portcullisref20_size.j1]
            rw [if_neg (by decide), if_pos (by omega), if_pos (by omega), Int.toNat_natCast, hpre]
          · unfold szG
            rw [if_neg hm]
            obtain ⟨bg, hbg⟩ : ∃ bg, begG 0 0 (p ++ [c]) = bg := ⟨_, rfl⟩
            rw [hbg]
            obtain ⟨n, a, b⟩ := bg
            cases a with
            | false =>
              simp only [if_true]
              exact Ev.now fun k => rfl
            | true =>
              cases b with
              | true => exact Ev.now fun k => rfl
              | false =>
                simp only [if_neg (show ¬ (true = false) by decide), if_neg (show ¬ (false = true) by decide)]
                refine Ev.of_eq (fun k => ?_) ih
                rw [hw1, List.length_append]
                rfl⟩
    exact key.2 trivial
theorem size_is (s : List UInt8) (hl : s.length ≤ 100000) : Ev (fun k => portcullisref20_size.f k (mkB s)) (castZ (szM (.dg 0 0) 0 s)) := by
  have := size_go s [] hl
  rw [szG_M s [] (.dg 0 0) ⟨rfl, rfl⟩] at this
  exact this
end Go.Proofs.YtllcfifeaacmiaaDoor.Pr
namespace Go.Proofs.YtllcfifeaacmiaaDoor.Pr
open Go.RowKit Go.Proofs.YtllcfifeaacmiaaDoorW.PrintWords Go.Proofs.YtllcfifeaacmiaaDoorW.PrintLast Go.Proofs.YtllcfifeaacmiaaDoorW.PrintMore
set_option linter.unusedVariables false
set_option linter.unusedSimpArgs false

/-! ### find, Ends, Token, Trim, Field of the reference -/
theorem idx_ways (d : UInt8) : ∀ s : List UInt8, d ∉ s ∨ ∃ A B, s = A ++ d :: B ∧ d ∉ A
  | [] => .inl List.not_mem_nil
  | c :: t => by
    by_cases h : c = d
    · exact .inr ⟨[], t, by rw [h]; rfl, List.not_mem_nil⟩
    · rcases idx_ways d t with h1 | ⟨A, B, rfl, h1⟩
      · exact .inl (fun e => by rcases List.mem_cons.1 e with e | e; exact h e.symm; exact h1 e)
      · exact .inr ⟨c :: A, B, rfl, fun e => by rcases List.mem_cons.1 e with e | e; exact h e.symm; exact h1 e⟩
theorem idxL_none (d : UInt8) : ∀ (s : List UInt8) (i : Int), d ∉ s → idxL d s i = -1
  | [], i, h => rfl
  | c :: t, i, h => by
    unfold idxL
    rw [if_neg (fun e => h (by rw [e]; exact List.mem_cons_self)), idxL_none d t _ (fun e => h (List.mem_cons_of_mem _ e))]
theorem idxL_some (d : UInt8) : ∀ (A B : List UInt8) (i : Int), d ∉ A → idxL d (A ++ d :: B) i = i + (A.length : Int)
  | [], B, i, h => by
    show idxL d (d :: B) i = _
    unfold idxL
    rw [if_pos rfl]
    simp
  | c :: t, B, i, h => by
    rw [List.cons_append]
    unfold idxL
    rw [if_neg (fun e => h (by rw [e]; exact List.mem_cons_self)), idxL_some d t B _ (fun e => h (List.mem_cons_of_mem _ e)), List.length_cons]
    omega
theorem indexByte_none (d : UInt8) : ∀ (s : List UInt8), d ∉ s → Lib.indexByte s d = -1
  | [], h => rfl
  | c :: t, h => by
    unfold Lib.indexByte
    rw [if_neg (by rw [beq_iff_eq]; exact fun e => h (by rw [e]; exact List.mem_cons_self)), indexByte_none d t (fun e => h (List.mem_cons_of_mem _ e))]
    rfl
theorem indexByte_some (d : UInt8) : ∀ (A B : List UInt8), d ∉ A → Lib.indexByte (A ++ d :: B) d = (A.length : Int)
  | [], B, h => by
    show Lib.indexByte (d :: B) d = _
    unfold Lib.indexByte
    rw [if_pos (beq_self_eq_true d)]
    rfl
  | c :: t, B, h => by
    rw [List.cons_append]
    unfold Lib.indexByte
    rw [if_neg (by rw [beq_iff_eq]; exact fun e => h (by rw [e]; exact List.mem_cons_self)), indexByte_some d t B (fun e => h (List.mem_cons_of_mem _ e)), List.length_cons, if_neg (by rw [beq_iff_eq]; omega)]
    omega
theorem fieldOk_none (s : List UInt8) (h : (58 : UInt8) ∉ s) : fieldOk s = false := by
  have : Lib.cut s [58] = (s, [], false) := by
    unfold Lib.cut
    rw [idx58, indexByte_none 58 s h, if_neg (by decide)]
  unfold fieldOk
  rw [this]
  rfl
theorem fieldOk_some (A B : List UInt8) (h : (58 : UInt8) ∉ A) : fieldOk (A ++ 58 :: B) = (tokL A && B.all (fun b => !badB b)) := by
  have : Lib.cut (A ++ 58 :: B) [58] = (A, B, true) := by
    unfold Lib.cut
    rw [idx58, indexByte_some 58 A B h, if_pos (by omega)]
    simp
  unfold fieldOk
  rw [this]
  rfl
theorem find_go (d : UInt8) : ∀ (r p : List UInt8), (p ++ r).length ≤ 100000 → Ev (fun k => portcullisref19_find.l0 k (mkB (p ++ r)) (d.toNat : Int) (p.length : Int)) (idxL d r (p.length : Int))
  | [], p, hl => by
    refine Ev.one (fun k => ?_)
    simp only [portcullisref19_find.l0]
    have hsz : (mkB (p ++ [])).size = p.length := by rw [mkB_size, List.append_nil]
    rw [if_neg (by rw [hsz]; omega)]
    rfl
  | c :: t, p, hl => by
    have hsz : ((mkB (p ++ c :: t)).size : Int) = (p.length : Int) + (t.length : Int) + 1 := by rw [mkB_size]; simp; omega
    have hb := bt_app p c t p.length rfl
    have hlen : p.length + t.length + 1 ≤ 100000 := by simp at hl; omega
    have q1 : (p.length : Int) < ((mkB (p ++ c :: t)).size : Int) := by omega
    have q2 : (0 : Int) ≤ (p.length : Int) := by omega
    have hw1 : wrap64 ((p.length : Int) + 1) = ((p.length + 1 : Nat) : Int) := w64n _ (by omega)
    have hl2 : ((p ++ [c]) ++ t).length ≤ 100000 := by rw [List.append_assoc]; exact hl
    have ih := find_go d t (p ++ [c]) hl2
    rw [List.append_assoc, List.singleton_append, List.length_append] at ih
    unfold idxL
    by_cases h : c = d
    · rw [if_pos h]
      refine Ev.one (fun k => ?_)
      simp only [portcullisref19_find.l0]
      rw [if_pos q1, if_pos q2, hb, if_pos (by rw [h])]
    · rw [if_neg h]
      refine Ev.step (fun k => ?_) ih
      simp only [portcullisref19_find.l0]
      rw [if_pos q1, if_pos q2, hb, if_neg (u8ne (d.toNat : Int) rfl h), hw1]
      rfl
theorem find_is (d : UInt8) (s : List UInt8) (hl : s.length ≤ 100000) : Ev (fun k => portcullisref19_find.f k (mkB s) (d.toNat : Int) 0) (idxL d s 0) := find_go d s [] hl
/-- Does a line end as it must? Of its text and the byte 10. -/
def endsB (X : List UInt8) : Bool := decide (X.length ≠ 0 ∧ idxL 13 (X ++ [10]) 0 = (X.length : Int) - 1)
theorem ends_is (X : List UInt8) (hl : X.length ≤ 90000) : Ev (fun k => portcullisref19_Ends.f k (mkB (X ++ [10]))) (endsB X) := by
  rcases List.eq_nil_or_concat X with rfl | ⟨Y, y, rfl⟩
  · exact Ev.now fun k => by
      unfold portcullisref19_Ends.f
      rw [if_neg (by rw [mkB_size]; decide)]
      rfl
  · rw [List.concat_eq_append] at hl ⊢
    have e1 : Y ++ [y] ++ [10] = Y ++ y :: [10] := by simp
    have hlY : Y.length + 1 ≤ 90000 := by simpa using hl
    have hsz : ((mkB (Y ++ y :: [10])).size : Int) = (Y.length : Int) + 2 := by rw [mkB_size]; simp
    have hb1 := bt_app Y y [10] Y.length rfl
    have hb2 := bt_app (Y ++ [y]) 10 [] (Y.length + 1) (by simp)
    rw [List.append_assoc, List.singleton_append] at hb2
    have hpre := mkB_pre Y (y :: [10]) Y.length rfl
    have q1 : wrap64 ((Y.length : Int) + 2 - 2) = (Y.length : Int) := by rw [show (Y.length : Int) + 2 - 2 = (Y.length : Int) by omega]; exact w64c _ (by omega)
    have q2 : wrap64 ((Y.length : Int) + 2 - 1) = ((Y.length + 1 : Nat) : Int) := by rw [show (Y.length : Int) + 2 - 1 = ((Y.length + 1 : Nat) : Int) by omega]; exact w64c _ (by omega)
    rw [e1]
    have he : endsB (Y ++ [y]) = (decide (y = 13) && decide (idxL 13 Y 0 < 0)) := by
      unfold endsB
      rw [e1]
      have hl2 : (Y ++ [y]).length = Y.length + 1 := by simp
      rw [hl2]
      rcases idx_ways 13 Y with h | ⟨A, B, rfl, h⟩
      · rw [idxL_none 13 Y 0 h]
        by_cases hy : y = 13
        · rw [hy, idxL_some 13 Y [10] 0 h]
          simp
        · have hn : (13 : UInt8) ∉ Y ++ y :: [10] := by
            simp [h, Ne.symm hy]
          rw [idxL_none 13 _ 0 hn]
          simp [hy]
      · have e2 : A ++ 13 :: B ++ y :: [10] = A ++ 13 :: (B ++ y :: [10]) := by simp
        have hlA : (A ++ 13 :: B).length = A.length + B.length + 1 := by simp; omega
        rw [e2, idxL_some 13 A _ 0 h, idxL_some 13 A B 0 h, hlA, decide_eq_false (p := 0 + (A.length : Int) < 0) (by omega), Bool.and_false]
        exact decide_eq_false (by omega)
    rw [he]
    by_cases hy : y = 13
    · refine Ev.of_eq (g := fun k => (portcullisref19_find.f k (mkB Y) 13 0).bind fun t114 => some (decide (t114 < 0))) (fun k => ?_) (Ev.bind (find_is 13 Y (by omega)) (Ev.now fun k => by rw [decide_eq_true hy]; rfl))
      unfold portcullisref19_Ends.f
      rw [hsz, q1, q2, if_pos (by omega), if_pos (by omega), if_pos (by omega), hb1, if_pos (by rw [hy]; rfl), if_pos (by omega), if_pos (by omega), hb2, if_pos (by rfl), if_pos (by omega), Int.toNat_natCast, hpre]
    · refine Ev.now fun k => ?_
      unfold portcullisref19_Ends.f
      rw [hsz, q1, q2, if_pos (by omega), if_pos (by omega), if_pos (by omega), hb1, if_neg (u8ne 13 rfl hy), decide_eq_false hy]
      rfl
def sg15 : List UInt8 := [33, 35, 36, 37, 38, 39, 42, 43, 45, 46, 94, 95, 96, 124, 126]
theorem sg15_at : ((List.range 15).all fun i => decide (bt (⟨#[33, 35, 36, 37, 38, 39, 42, 43, 45, 46, 94, 95, 96, 124, 126]⟩ : ByteArray) (i : Int) = ((sg15.getD i 0).toNat : Int))) = true := by decide +kernel
theorem tok_l1 (x0 : ByteArray) (x3 : Int) (c : UInt8) (r : Bool) (h : Ev (fun k => portcullisref19_Token.l0 k x0 (wrap64 (x3 + 1))) r) : ∀ (m i : Nat) (b : Bool), i + m = 15 → (r = false ∨ True) → ∀ q, (b || (sg15.drop i).contains c) = q → Ev (fun k => portcullisref19_Token.l1 k x0 x3 (c.toNat : Int) b (i : Int)) (if q = true then r else false)
  | 0, i, b, hi, _, q, hq => by
    obtain rfl : i = 15 := by omega
    have : (sg15.drop 15).contains c = false := rfl
    rw [this, Bool.or_false] at hq
    subst hq
    cases b with
    | true =>
      rw [if_pos rfl]
      refine Ev.step (fun k => ?_) h
      simp only [portcullisref19_Token.l1]
      rw [if_neg (by omega), if_pos True.intro]
    | false =>
      rw [if_neg (by decide)]
      refine Ev.one (fun k => ?_)
      simp only [portcullisref19_Token.l1]
      rw [if_neg (by omega), if_neg (by decide)]
  | m + 1, i, b, hi, _, q, hq => by
    have hw1 : wrap64 ((i : Int) + 1) = ((i + 1 : Nat) : Int) := w64n _ (by omega)
    have hlt : i < sg15.length := by show i < 15; omega
    have hd : sg15.drop i = sg15[i] :: sg15.drop (i + 1) := List.drop_eq_getElem_cons hlt
    have hbt : bt (⟨#[33, 35, 36, 37, 38, 39, 42, 43, 45, 46, 94, 95, 96, 124, 126]⟩ : ByteArray) (i : Int) = (sg15[i].toNat : Int) := by
      have := of_decide_eq_true (List.all_eq_true.1 sg15_at i (List.mem_range.2 (by omega)))
      rw [this, List.getD_eq_getElem?_getD, List.getElem?_eq_getElem hlt]
      rfl
    have q1 : (i : Int) < 15 := by omega
    have q2 : (0 : Int) ≤ (i : Int) := by omega
    cases b with
    | true =>
      have ih := tok_l1 x0 x3 c r h m (i + 1) true (by omega) (.inr trivial) q (by rw [← hq]; simp)
      refine Ev.step (fun k => ?_) ih
      simp only [portcullisref19_Token.l1]
      rw [if_pos q1, if_pos True.intro, hw1]
    | false =>
      have e : (((sg15[i].toNat : Int) == (c.toNat : Int)) || (sg15.drop (i + 1)).contains c) = q := by
        rw [← hq, hd, Bool.false_or, List.contains_cons]
        congr 1
        rw [Bool.eq_iff_iff, beq_iff_eq, beq_iff_eq]
        exact ⟨fun e => (UInt8.toNat_inj.1 (Int.ofNat.inj e)).symm, fun e => by rw [e]⟩
      have ih := tok_l1 x0 x3 c r h m (i + 1) ((sg15[i].toNat : Int) == (c.toNat : Int)) (by omega) (.inr trivial) q e
      refine Ev.step (fun k => ?_) ih
      simp only [portcullisref19_Token.l1]
      rw [if_pos q1, if_neg (by decide), if_pos q2, hw1, hbt]
def alnB (c : UInt8) : Bool := (decide (97 ≤ c.toNat) && decide (c.toNat ≤ 122)) || (decide (65 ≤ c.toNat) && decide (c.toNat ≤ 90)) || (decide (48 ≤ c.toNat) && decide (c.toNat ≤ 57))
theorem sg_all : ((List.range 256).all fun n => decide ((alnB (UInt8.ofNat n) || sg15.contains (UInt8.ofNat n)) = sgl.contains (UInt8.ofNat n))) = true := by decide +kernel
theorem sg_is (c : UInt8) : (alnB c || (sg15.drop 0).contains c) = sgl.contains c := by
  have := of_decide_eq_true (List.all_eq_true.1 sg_all c.toNat (List.mem_range.2 (UInt8.toNat_lt c)))
  rwa [UInt8.ofNat_toNat] at this
theorem tok_go : ∀ (r p : List UInt8), (p ++ r).length ≤ 100000 → Ev (fun k => portcullisref19_Token.l0 k (mkB (p ++ r)) (p.length : Int)) (r.all (sgl.contains ·) && !(p ++ r).isEmpty)
  | [], p, hl => by
    refine Ev.one (fun k => ?_)
    simp only [portcullisref19_Token.l0]
    have hsz : (mkB (p ++ [])).size = p.length := by rw [mkB_size, List.append_nil]
    rw [if_neg (by rw [hsz]; omega), hsz]
    cases p with
    | nil => rfl
    | cons a l => simp
  | c :: t, p, hl => by
    have hsz : ((mkB (p ++ c :: t)).size : Int) = (p.length : Int) + (t.length : Int) + 1 := by rw [mkB_size]; simp; omega
    have hb := bt_app p c t p.length rfl
    have hlen : p.length + t.length + 1 ≤ 100000 := by simp at hl; omega
    have q1 : (p.length : Int) < ((mkB (p ++ c :: t)).size : Int) := by omega
    have q2 : (0 : Int) ≤ (p.length : Int) := by omega
    have hw1 : wrap64 ((p.length : Int) + 1) = ((p.length + 1 : Nat) : Int) := w64n _ (by omega)
    have hl2 : ((p ++ [c]) ++ t).length ≤ 100000 := by rw [List.append_assoc]; exact hl
    have ih := tok_go t (p ++ [c]) hl2
    rw [List.append_assoc, List.singleton_append, List.length_append] at ih
    have ih2 : Ev (fun k => portcullisref19_Token.l0 k (mkB (p ++ c :: t)) (wrap64 ((p.length : Int) + 1))) (t.all (sgl.contains ·) && !(p ++ c :: t).isEmpty) := by rw [hw1]; exact ih
    have h1 := tok_l1 (mkB (p ++ c :: t)) (p.length : Int) c _ ih2 15 0 (alnB c) rfl (.inr trivial) _ rfl
    rw [sg_is] at h1
    have e : (if sgl.contains c = true then (t.all (sgl.contains ·) && !(p ++ c :: t).isEmpty) else false) = ((c :: t).all (sgl.contains ·) && !(p ++ c :: t).isEmpty) := by
      rw [List.all_cons]
      cases sgl.contains c <;> simp
    rw [e] at h1
    refine Ev.step (f := fun k => portcullisref19_Token.j1 k (mkB (p ++ c :: t)) (p.length : Int) (c.toNat : Int) (alnB c)) (fun k => ?_) (Ev.step (fun k => ?_) h1)
    · simp only [portcullisref19_Token.l0]
      rw [if_pos q1, if_pos q2, hb]
      unfold alnB
      by_cases a1 : 97 ≤ c.toNat
      · rw [if_pos (by omega)]
        by_cases a2 : c.toNat ≤ 122
        · rw [if_pos (by omega)]
          simp [a1, a2]
        · rw [if_neg (by omega), if_pos (by omega), if_neg (by omega), if_pos (by omega)]
          have a3 : ¬ c.toNat ≤ 57 := by omega
          have a4 : ¬ c.toNat ≤ 90 := by omega
          have a5 : ¬ (c.toNat : Int) ≤ 57 := by omega
          simp [a2, a3, a4, a5]
      · rw [if_neg (by omega)]
        by_cases a2 : 65 ≤ c.toNat
        · rw [if_pos (by omega)]
          by_cases a3 : c.toNat ≤ 90
          · rw [if_pos (by omega)]
            simp [a2, a3]
          · rw [if_neg (by omega), if_pos (by omega)]
            have a4 : ¬ c.toNat ≤ 57 := by omega
            have a5 : ¬ (c.toNat : Int) ≤ 57 := by omega
            simp [a1, a3, a4, a5]
        · rw [if_neg (by omega)]
          by_cases a3 : 48 ≤ c.toNat
          · rw [if_pos (by omega)]
            have a6 : decide ((c.toNat : Int) ≤ 57) = decide (c.toNat ≤ 57) := by
              by_cases a7 : c.toNat ≤ 57
              · rw [decide_eq_true a7, decide_eq_true (by omega)]
              · rw [decide_eq_false a7, decide_eq_false (by omega)]
            simp [a1, a2, a3, a6]
          · rw [if_neg (by omega)]
            simp [a1, a2, a3]
    · simp only [portcullisref19_Token.j1]
      rfl
theorem tok_is (s : List UInt8) (hl : s.length ≤ 100000) : Ev (fun k => portcullisref19_Token.f k (mkB s)) (tokL s) := tok_go s [] hl
end Go.Proofs.YtllcfifeaacmiaaDoor.Pr
