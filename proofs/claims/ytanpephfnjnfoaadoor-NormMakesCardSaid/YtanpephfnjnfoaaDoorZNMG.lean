import Derived.Test.YtanpephfnjnfoaaDoorZNMD
import Derived.Test.YtanpephfnjnfoaaDoorZNMB
import Derived.Test.YtanpephfnjnfoaaDoorZNMC
import Derived.Test.YtanpephfnjnfoaaDoorZNMF
section
namespace Go.Proofs.YtanpephfnjnfoaaDoor.Pr
open Go.RowKit Go.Proofs.YtanpephfnjnfoaaDoorW.PrintWords Go.Proofs.YtanpephfnjnfoaaDoorW.PrintLast Go.Proofs.YtanpephfnjnfoaaDoorW.PrintMore
set_option linter.unusedVariables false
set_option linter.unusedSimpArgs false

def uAll : List S55 := uT0 ++ uT1 ++ uT2
def rAll : List S30 := rT0 ++ rT1 ++ rT2
def toU (x : S30) : S55 := ⟨x.f0, x.f1, x.f2, x.f6, x.f7, x.f8, x.f10, x.f9⟩
theorem toU_all : rAll.map toU = uAll := by kernel_rfl
def inR (r : Int) (x : S30) : Bool := decide (x.f0 ≤ r) && decide (r ≤ x.f1)
def findR (r : Int) : S30 := (rAll.find? (inR r)).getD z30
theorem findR_U (r : Int) : toU (findR r) = findU r := by
  unfold findR
  have h : findU r = ((rAll.map toU).find? (inU r)).getD z55 := by rw [toU_all]; rfl
  rw [h, List.find?_map, show inU r ∘ toU = inR r from rfl]
  cases rAll.find? (inR r) with
  | none => rfl
  | some x => rfl
def rPs : List S53 := rP0 ++ rP1
def toP (x : S53) : S61 := ⟨x.f0, x.f1, x.f2⟩
theorem toP_all : rPs.map toP = uP0 ++ uP1 := by kernel_rfl
theorem wrap_next (i : Nat) (h : i ≤ 1000000) : wrap64 ((i : Int) + 1) = ((i + 1 : Nat) : Int) := by unfold wrap64; omega

def tupR (x : S30) : Int × Int × Int × Int × Int × Int × Int × Int × Int × Bool × Int := (x.f0, x.f1, x.f2, x.f3, x.f4, x.f5, x.f6, x.f7, x.f8, x.f9, x.f10)
theorem find_l0 (k : Nat) (r : Int) (l : List S30) (hl : l.length ≤ 1000) : ∀ d i : Nat, i + d = l.length → portcullisref03_Find.l0 (k + d + 1) r l (i : Int) = some (tupR (((l.drop i).find? (inR r)).getD z30))
  | 0, i, h => by
    unfold portcullisref03_Find.l0
    rw [if_neg (by omega), List.drop_of_length_le (by omega)]
    rfl
  | d + 1, i, h => by
    have hi : i < l.length := by omega
    have ih := find_l0 k r l hl d (i + 1) (by omega)
    have hx : rd_T30 l (i : Int) = l[i] := by unfold rd_T30; simp [hi]
    rw [show k + (d + 1) + 1 = (k + d + 1) + 1 from rfl]
    unfold portcullisref03_Find.l0
    rw [if_pos (by omega), if_pos (by omega), hx, wrap_next i (by omega), ih, List.drop_eq_getElem_cons hi, List.find?_cons]
    by_cases h1 : l[i].f0 ≤ r
    · rw [if_pos h1]
      by_cases h2 : r ≤ l[i].f1
      · rw [if_pos h2, show inR r l[i] = true by unfold inR; simp [h1, h2]]; rfl
      · rw [if_neg h2, show inR r l[i] = false by unfold inR; simp [h2]]
    · rw [if_neg h1, show inR r l[i] = false by unfold inR; simp [h1]]
theorem rows_eq : portcullisref03_Rows.f = some rAll := by kernel_rfl
theorem refFind_eq (k : Nat) (r : Int) : portcullisref03_Find.f (k + 100) r = some (tupR (findR r)) := by
  unfold portcullisref03_Find.f
  rw [rows_eq, Option.bind_some]
  exact find_l0 (k + 11) r rAll (by decide) 88 0 (by decide)
theorem pair_l0 (k : Nat) (a b : Int) (l : List S53) (hl : l.length ≤ 1000) : ∀ d i : Nat, i + d = l.length → portcullisref03_Pair.l0 (k + d + 1) a b l (i : Int) = some (match (l.drop i).find? (fun x => x.f1 == a && x.f2 == b) with | some x => (x.f0, true) | none => (0, false))
  | 0, i, h => by
    unfold portcullisref03_Pair.l0
    rw [if_neg (by omega), List.drop_of_length_le (by omega)]
    rfl
  | d + 1, i, h => by
    have hi : i < l.length := by omega
    have ih := pair_l0 k a b l hl d (i + 1) (by omega)
    have hx : rd_T53 l (i : Int) = l[i] := by unfold rd_T53; simp [hi]
    rw [show k + (d + 1) + 1 = (k + d + 1) + 1 from rfl]
    unfold portcullisref03_Pair.l0
    rw [if_pos (by omega), if_pos (by omega), hx, wrap_next i (by omega), ih, List.drop_eq_getElem_cons hi, List.find?_cons]
    by_cases h1 : l[i].f1 = a
    · rw [if_pos h1]
      by_cases h2 : l[i].f2 = b
      · rw [if_pos h2, show (l[i].f1 == a && l[i].f2 == b) = true by simp [h1, h2]]
      · rw [if_neg h2, show (l[i].f1 == a && l[i].f2 == b) = false by simp [h2]]
    · rw [if_neg h1, show (l[i].f1 == a && l[i].f2 == b) = false by simp [h1]]
theorem pairs_eq : portcullisref03_Pairs.f = some rPs := by kernel_rfl
theorem refPair_eq (k : Nat) (a b : Int) : portcullisref03_Pair.f (k + 100) a b = unidata_Pair.f a b := by
  unfold portcullisref03_Pair.f unidata_Pair.f
  rw [pairs_eq, Option.bind_some]
  rw [show k + 100 = (k + 19) + 80 + 1 from rfl]
  have h := pair_l0 (k + 19) a b rPs (by decide) 80 0 (by decide)
  rw [List.drop_zero] at h
  refine h.trans ?_
  unfold ofP
  rw [← toP_all, List.find?_map, show (fun x : S61 => x.f1 == a && x.f2 == b) ∘ toP = (fun x => x.f1 == a && x.f2 == b) from rfl]
  cases rPs.find? (fun x => x.f1 == a && x.f2 == b) with
  | none => rfl
  | some x => rfl
def lits (r : Int) : List Int := if r = 8486 then [937] else if r = 8490 then [75] else if r = 8491 then [197] else []
theorem decomp_l0 (k : Nat) (a : Int) (l : List S53) (hl : l.length ≤ 1000) : ∀ d i : Nat, i + d = l.length → portcullisref03_Decomp.l0 (k + d + 1) a l (i : Int) = some (match (l.drop i).find? (fun x => x.f0 == a) with | some x => [x.f1, x.f2] | none => lits a)
  | 0, i, h => by
    unfold portcullisref03_Decomp.l0 lits
    rw [if_neg (by omega), List.drop_of_length_le (by omega)]
    simp only [List.find?_nil]
    split
    · rfl
    split
    · rfl
    split
    · rfl
    rfl
  | d + 1, i, h => by
    have hi : i < l.length := by omega
    have ih := decomp_l0 k a l hl d (i + 1) (by omega)
    have hx : rd_T53 l (i : Int) = l[i] := by unfold rd_T53; simp [hi]
    rw [show k + (d + 1) + 1 = (k + d + 1) + 1 from rfl]
    unfold portcullisref03_Decomp.l0
    rw [if_pos (by omega), if_pos (by omega), hx, wrap_next i (by omega), ih, List.drop_eq_getElem_cons hi, List.find?_cons]
    by_cases h1 : l[i].f0 = a
    · rw [if_pos h1, show (l[i].f0 == a) = true by simp [h1]]
    · rw [if_neg h1, show (l[i].f0 == a) = false by simp [h1]]
theorem no_lits : ((uP0 ++ uP1).all fun x => x.f0 != 8486 && x.f0 != 8490 && x.f0 != 8491) = true := by decide +kernel
theorem refDecomp_eq (k : Nat) (a : Int) : portcullisref03_Decomp.f (k + 100) a = unidata_Decomp.f a := by
  unfold portcullisref03_Decomp.f unidata_Decomp.f
  rw [pairs_eq, Option.bind_some]
  rw [show k + 100 = (k + 19) + 80 + 1 from rfl]
  have h := decomp_l0 (k + 19) a rPs (by decide) 80 0 (by decide)
  rw [List.drop_zero] at h
  refine h.trans ?_
  unfold ofP lits
  rw [← toP_all, List.find?_map, show (fun x : S61 => x.f0 == a) ∘ toP = (fun x => x.f0 == a) from rfl]
  cases hf : rPs.find? (fun x => x.f0 == a) with
  | none => simp
  | some x =>
    have h0 : x.f0 = a := by simpa using List.find?_some hf
    have h1 := List.all_eq_true.1 no_lits (toP x) (by rw [← toP_all]; exact List.mem_map_of_mem (List.mem_of_find?_eq_some hf))
    simp [toP, h0, and_assoc] at h1
    simp [h1.1, h1.2.1, h1.2.2, toP]
end Go.Proofs.YtanpephfnjnfoaaDoor.Pr
end

section
namespace Go.Proofs.YtanpephfnjnfoaaDoor.Pr
open Go.RowKit Go.Proofs.YtanpephfnjnfoaaDoorW.PrintWords Go.Proofs.YtanpephfnjnfoaaDoorW.PrintLast Go.Proofs.YtanpephfnjnfoaaDoorW.PrintMore
set_option linter.unusedVariables false
set_option linter.unusedSimpArgs false

theorem Ev.stepG {α : Type} {f g : Nat → Option α} {r : α} (K0 : Nat) (h : ∀ k, K0 ≤ k → g (k + 1) = f k) (hf : Ev f r) : Ev g r := by
  obtain ⟨K, hK⟩ := hf
  refine ⟨K + K0 + 1, fun k hk => ?_⟩
  obtain ⟨k, rfl⟩ : ∃ k', k = k' + 1 := ⟨k - 1, by omega⟩
  rw [h k (by omega)]
  exact hK k (by omega)
theorem class_R (r : Int) : (findR r).f8 = clsU r := by
  have := findR_U r
  unfold clsU
  rw [← this]
  rfl
theorem refClass_eq (k : Nat) (hk : 100 ≤ k) (r : Int) : portcullisref04_class.f k r = some (clsU r) := by
  obtain ⟨k, rfl⟩ : ∃ k', k = k' + 100 := ⟨k - 100, by omega⟩
  unfold portcullisref04_class.f
  rw [refFind_eq, Option.bind_some]
  show some (findR r).f8 = _
  rw [class_R]
theorem refDec (k : Nat) (hk : 100 ≤ k) (r : Int) : portcullisref03_Decomp.f k r = some (decU r) := by
  obtain ⟨k, rfl⟩ : ∃ k', k = k' + 100 := ⟨k - 100, by omega⟩
  rw [refDecomp_eq, decU_f]
theorem refPr (k : Nat) (hk : 100 ≤ k) (a b : Int) : portcullisref03_Pair.f k a b = some (prU a b) := by
  obtain ⟨k, rfl⟩ : ∃ k', k = k' + 100 := ⟨k - 100, by omega⟩
  rw [refPair_eq, prU_f]

def invU : List Int → Nat
  | [] => 0
  | x :: t => t.countP (fun y => decide (clsU y ≠ 0 ∧ clsU y < clsU x)) + invU t
theorem inv_swap {a b : Int} (h0 : clsU b ≠ 0) (h : clsU b < clsU a) : ∀ P Q : List Int, invU (P ++ a :: b :: Q) = invU (P ++ b :: a :: Q) + 1
  | [], Q => by
    show invU (a :: b :: Q) = invU (b :: a :: Q) + 1
    have c1 : decide (clsU b ≠ 0 ∧ clsU b < clsU a) = true := decide_eq_true ⟨h0, h⟩
    have c2 : decide (clsU a ≠ 0 ∧ clsU a < clsU b) = false := decide_eq_false (by omega)
    simp only [invU, List.countP_cons, c1, c2]
    simp
    omega
  | x :: P, Q => by
    have ih := inv_swap h0 h P Q
    have hp : (P ++ a :: b :: Q).Perm (P ++ b :: a :: Q) := List.Perm.append_left P (List.Perm.swap b a Q)
    show invU (x :: (P ++ a :: b :: Q)) = invU (x :: (P ++ b :: a :: Q)) + 1
    simp only [invU]
    rw [ih, hp.countP_eq]
    omega
theorem order_step (L : List Int) (again : Bool) (p : Int) (k : Nat) (h0 : 1 ≤ p) (h1 : p < (L.length : Int)) (hl : L.length ≤ 1000000) (hk : 100 ≤ k) :
    portcullisref04_Order.l1 (k + 1) L again p =
      if clsU (rd L p) = 0 then portcullisref04_Order.l1 k L again (p + 1) else if clsU (rd L (p - 1)) > clsU (rd L p) then portcullisref04_Order.l1 k ((L.set (p - 1).toNat (rd L p)).set p.toNat (rd L (p - 1))) true (p + 1) else portcullisref04_Order.l1 k L again (p + 1) := by
  have hw1 : wrap64 (p - 1) = p - 1 := IntWalk.wrap64_in _ (by omega)
  have hw2 : wrap64 (p + 1) = p + 1 := IntWalk.wrap64_in _ (by omega)
  rw [portcullisref04_Order.l1, if_pos h1, hw1, if_pos (by omega), if_pos (by omega), refClass_eq k hk, Option.bind_some, if_pos (by omega), refClass_eq k hk, Option.bind_some, hw2]
theorem set_two (x y : Int) (t : List Int) : ∀ pre : List Int, ((pre ++ x :: y :: t).set pre.length y).set (pre.length + 1) x = pre ++ y :: x :: t
  | [] => rfl
  | z :: pre => by
    have := set_two x y t pre
    show z :: (((pre ++ x :: y :: t).set pre.length y).set (pre.length + 1) x) = _
    rw [this]
    rfl
theorem order_pass (n m : Nat) (hm : m ≤ 1000000) (IH : ∀ L, invU L < n → L.length = m → Ev (fun k => portcullisref04_Order.l0 k L true) (ordM clsU L)) :
    ∀ (rest pre : List Int) (x : Int) (again : Bool) (L : List Int), L = pre ++ x :: rest → L.length = m → (again = true → invU L < n) → (again = false → invU L ≤ n ∧ SrtR clsU (x :: pre.reverse)) →
      Ev (fun k => portcullisref04_Order.l1 k L again (((pre ++ [x]).length : Nat) : Int)) (ordM clsU L)
  | [], pre, x, again, L, hL, hlm, ht, hf => by
    have hl : L.length = (pre ++ [x]).length := by rw [hL]
    refine Ev.step (f := fun k => portcullisref04_Order.l0 k L again) (fun k => by rw [portcullisref04_Order.l1, if_neg (by omega)]) ?_
    cases again with
    | true => exact IH L (ht rfl) hlm
    | false =>
      have : ordM clsU L = L := ordM_srt clsU L (by rw [hL]; simpa using (hf rfl).2)
      rw [this]
      exact Ev.one fun k => by rw [portcullisref04_Order.l0, if_neg (by decide)]
  | y :: t, pre, x, again, L, hL, hlm, ht, hf => by
    have hlen : L.length = pre.length + (t.length + 2) := by rw [hL]; simp
    have hpl : (pre ++ [x]).length = pre.length + 1 := by simp
    have hx : rd L (pre.length : Int) = x := by rw [hL]; exact rd_app pre _ x
    have hy : rd L (((pre ++ [x]).length : Nat) : Int) = y := by
      have : L = (pre ++ [x]) ++ y :: t := by rw [hL]; simp
      rw [this]; exact rd_app _ _ y
    have hp1 : (((pre ++ [x]).length : Nat) : Int) - 1 = (pre.length : Int) := by omega
    have hp2 : (((pre ++ [x]).length : Nat) : Int) + 1 = (((pre ++ [x]).length + 1 : Nat) : Int) := by omega
    have hset : ((L.set ((pre.length : Int)).toNat y).set (((pre ++ [x]).length : Nat) : Int).toNat x) = pre ++ y :: x :: t := by
      rw [Int.toNat_natCast, Int.toNat_natCast, hpl, hL]
      exact set_two x y t pre
    have hs : ∀ k, 100 ≤ k → portcullisref04_Order.l1 (k + 1) L again (((pre ++ [x]).length : Nat) : Int) =
        if clsU y = 0 then portcullisref04_Order.l1 k L again (((pre ++ [x]).length + 1 : Nat) : Int) else if clsU x > clsU y then portcullisref04_Order.l1 k (pre ++ y :: x :: t) true (((pre ++ [x]).length + 1 : Nat) : Int) else portcullisref04_Order.l1 k L again (((pre ++ [x]).length + 1 : Nat) : Int) := fun k hk => by
      rw [order_step L again _ k (by omega) (by omega) (by omega) hk, hp1, hp2, hx, hy, hset]
    by_cases c : clsU y ≠ 0 ∧ clsU y < clsU x
    · have e : ordM clsU L = ordM clsU (pre ++ y :: x :: t) := by rw [hL]; exact ordM_swap clsU c.1 c.2 clsU_pos pre t
      have hi : invU (pre ++ y :: x :: t) < n := by
        have h1 := inv_swap c.1 c.2 pre t
        rw [← hL] at h1
        cases again with
        | true => have := ht rfl; omega
        | false => have := (hf rfl).1; omega
      rw [e]
      have h2 := order_pass n m hm IH t (pre ++ [y]) x true (pre ++ y :: x :: t) (by simp) (by rw [← hlm, hL]; simp) (fun _ => hi) (fun h => by cases h)
      refine Ev.stepG 100 (fun k hk => ?_) h2
      rw [hs k hk, if_neg c.1, if_pos c.2]
      simp only [List.length_append, List.length_cons, List.length_nil]
    · have h2 := order_pass n m hm IH t (pre ++ [x]) y again L (by rw [hL]; simp) hlm ht (fun h => ⟨(hf h).1, by
        have h3 := (hf h).2
        rw [List.reverse_append]
        exact ⟨c, h3⟩⟩)
      refine Ev.stepG 100 (fun k hk => ?_) h2
      rw [hs k hk]
      by_cases c0 : clsU y = 0
      · rw [if_pos c0]; simp only [List.length_append, List.length_cons, List.length_nil]
      · rw [if_neg c0, if_neg (by omega)]; simp only [List.length_append, List.length_cons, List.length_nil]
theorem order_l0 : ∀ (n : Nat) (L : List Int), invU L ≤ n → L.length ≤ 1000000 → Ev (fun k => portcullisref04_Order.l0 k L true) (ordM clsU L) := by
  intro n
  induction n using Nat.strongRecOn with
  | _ n ih =>
    intro L hi hl
    cases L with
    | nil =>
      refine Ev.step (f := fun k => portcullisref04_Order.l1 k [] false 1) (fun k => by rw [portcullisref04_Order.l0, if_pos rfl]) ?_
      refine Ev.step (f := fun k => portcullisref04_Order.l0 k [] false) (fun k => by rw [portcullisref04_Order.l1, if_neg (by decide)]) ?_
      exact Ev.one fun k => by rw [portcullisref04_Order.l0, if_neg (by decide)]; rfl
    | cons x t =>
      have h := order_pass n (x :: t).length hl (fun L' h1 h2 => ih (invU L') h1 L' (Nat.le_refl _) (by omega)) t [] x false (x :: t) rfl rfl (fun h => by cases h) (fun _ => ⟨hi, trivial⟩)
      refine Ev.step (fun k => ?_) h
      rw [portcullisref04_Order.l0, if_pos rfl]
      rfl
theorem refOrder_is (l : List Int) (h : l.length ≤ 1000000) : Ev (fun k => portcullisref04_Order.f k l) (ordM clsU l) := by
  refine Ev.of_eq (fun k => ?_) (order_l0 (invU l) l (Nat.le_refl _) h)
  unfold portcullisref04_Order.f
  rw [if_pos (by simp; omega), List.nil_append]

theorem refApart_l0 (j : Nat) (hj : j ≤ 5) (d : List Int) (hd : d.length ≤ 1000000) : ∀ (rest pre acc : List Int), d = pre ++ rest → acc.length + 32 * rest.length ≤ 100000000 → (∀ x ∈ rest, Ev (fun k => portcullisref04_apart.f k x) (apartK j x)) →
    Ev (fun k => portcullisref04_apart.l0 k d acc (pre.length : Int)) (acc ++ rest.flatMap (apartK j))
  | [], pre, acc, h, ha, hx => by
    rw [List.flatMap_nil, List.append_nil]
    exact Ev.one fun k => by rw [portcullisref04_apart.l0, if_neg (by rw [h]; simp)]
  | x :: rest, pre, acc, h, ha, hx => by
    have hr : rd d (pre.length : Int) = x := by rw [h]; exact rd_app pre _ x
    have hl : d.length = pre.length + (rest.length + 1) := by rw [h]; simp
    have hlx := apart_len j x
    have hp2 : 2 ^ j ≤ 2 ^ 5 := Nat.pow_le_pow_right (by omega) hj
    have hw : wrap64 ((pre.length : Int) + 1) = (((pre ++ [x]).length : Nat) : Int) := by rw [w64n _ (by omega)]; simp
    obtain ⟨K, hK⟩ := hx x List.mem_cons_self
    simp only [List.length_cons] at ha
    have ih := refApart_l0 j hj d hd rest (pre ++ [x]) (acc ++ apartK j x) (by rw [h]; simp) (by rw [List.length_append]; omega) (fun y hy => hx y (List.mem_cons_of_mem _ hy))
    rw [List.flatMap_cons, ← List.append_assoc]
    refine Ev.stepG K (fun k hk => ?_) ih
    have e := hK k hk
    simp only at e
    rw [portcullisref04_apart.l0, if_pos (by omega), if_pos (by omega), hr, e, Option.bind_some, if_pos (by omega), hw]
theorem refApart_is : ∀ (j : Nat), j ≤ 5 → ∀ (r : Int), Dep j r → Ev (fun k => portcullisref04_apart.f k r) (apartK j r) := by
  intro j
  induction j with
  | zero =>
    intro hj r h
    refine ⟨101, fun k hk => ?_⟩
    obtain ⟨k, rfl⟩ : ∃ k', k = k' + 1 := ⟨k - 1, by omega⟩
    show portcullisref04_apart.f (k + 1) r = _
    have h' : decU r = [] := h
    rw [portcullisref04_apart.f, refDec k (by omega), Option.bind_some, h', if_pos (by rfl)]
    rfl
  | succ j ih =>
    intro hj r h
    by_cases e : decU r = []
    · refine ⟨101, fun k hk => ?_⟩
      obtain ⟨k, rfl⟩ : ∃ k', k = k' + 1 := ⟨k - 1, by omega⟩
      show portcullisref04_apart.f (k + 1) r = _
      rw [portcullisref04_apart.f, refDec k (by omega), Option.bind_some, e, if_pos (by rfl), apartK_nil e]
    · have hl := decU_len r
      have h1 := refApart_l0 j (by omega) (decU r) (by omega) (decU r) [] [] rfl (by simp; omega) (fun x hx => ih (by omega) x (h x hx))
      have e2 : apartK (j + 1) r = [] ++ (decU r).flatMap (apartK j) := by rw [apartK, if_neg e]; rfl
      rw [e2]
      refine Ev.stepG 100 (fun k hk => ?_) h1
      have hne : ¬ ((decU r).length : Int) = 0 := fun h0 => e (List.length_eq_zero_iff.1 (by omega))
      rw [portcullisref04_apart.f, refDec k hk, Option.bind_some, if_neg hne]
      rfl
theorem refNFD_l0 (d : List Int) (hd : d.length ≤ 60000) : ∀ (rest pre : List Int), d = pre ++ rest → Ev (fun k => portcullisref04_NFD.l0 k d (apL pre) (pre.length : Int)) (nfdU d)
  | [], pre, h => by
    have e : d = pre := by rw [h]; simp
    have hl := apL_len pre
    have hlp : pre.length ≤ 60000 := by rw [← e]; exact hd
    obtain ⟨K, hK⟩ := refOrder_is (apL pre) (by omega)
    refine Ev.stepG (f := fun _ => some (nfdU d)) K (fun k hk => ?_) (Ev.now fun _ => rfl)
    have e1 := hK k hk
    simp only at e1
    rw [portcullisref04_NFD.l0, if_neg (by rw [e]; omega), e1, Option.bind_some, e]
    rfl
  | x :: rest, pre, h => by
    have hr : rd d (pre.length : Int) = x := by rw [h]; exact rd_app pre _ x
    have hl : d.length = pre.length + (rest.length + 1) := by rw [h]; simp
    have hlx := apart_len 4 x
    have hla := apL_len pre
    have hw : wrap64 ((pre.length : Int) + 1) = (((pre ++ [x]).length : Nat) : Int) := by rw [w64n _ (by omega)]; simp
    obtain ⟨K, hK⟩ := refApart_is 4 (by omega) x (dep4 x)
    have ih := refNFD_l0 d hd rest (pre ++ [x]) (by rw [h]; simp)
    refine Ev.stepG K (fun k hk => ?_) ih
    have e := hK k hk
    simp only at e
    have ea : apL (pre ++ [x]) = apL pre ++ apartK 4 x := by rw [apL_append]; simp [apL]
    rw [portcullisref04_NFD.l0, if_pos (by omega), if_pos (by omega), hr, e, Option.bind_some, if_pos (by omega), hw, ea]
theorem refNFD_is (l : List Int) (h : l.length ≤ 60000) : Ev (fun k => portcullisref04_NFD.f k l) (nfdU l) := by
  have := refNFD_l0 l h l [] rfl
  exact Ev.of_eq (fun k => by unfold portcullisref04_NFD.f; rfl) this

theorem w64i (p : Int) (h : -2 ≤ p) (h2 : p ≤ 2147483648) : wrap64 p = p := IntWalk.wrap64_in _ (by omega)
theorem nfc_down {R : List Int} (L : List Int) (i : Int) (hl : L.length ≤ 1000000) (X v : List Int) (hX : Ev (fun k => portcullisref04_NFC.l1 k L i ((X.length : Int) - 1)) R) :
    ∀ (n : Nat) (u : List Int), u.length = n → (∀ y ∈ u, clsU y ≠ 0) → (∃ v', L = X ++ (u ++ v')) → Ev (fun k => portcullisref04_NFC.l1 k L i (((X.length + u.length : Nat) : Int) - 1)) R := by
  intro n
  induction n with
  | zero =>
    intro u hu hnz hL
    have : u = [] := List.length_eq_zero_iff.1 hu
    subst this
    exact hX
  | succ n ih =>
    intro u hu hnz hL
    obtain ⟨v', hL⟩ := hL
    rcases List.eq_nil_or_concat u with rfl | ⟨u', y, rfl⟩
    · simp at hu
    · have hu' : u'.length = n := by simp at hu; omega
      have e1 : (((X.length + (u' ++ [y]).length : Nat) : Int) - 1) = (((X ++ u').length : Nat) : Int) := by simp; omega
      have hL2 : L = (X ++ u') ++ y :: v' := by rw [hL]; simp
      have hr : rd L (((X ++ u').length : Nat) : Int) = y := by rw [hL2]; exact rd_app _ _ y
      have hlen : L.length = (X ++ u').length + (v'.length + 1) := by rw [hL2, List.length_append]; rfl
      have hny : ¬ clsU y = 0 := hnz y (by simp)
      have IH := ih u' hu' (fun z hz => hnz z (by simp [hz])) ⟨y :: v', by rw [hL]; simp⟩
      rw [List.concat_eq_append, e1]
      refine Ev.stepG 100 (fun k hk => ?_) IH
      rw [portcullisref04_NFC.l1, if_pos (by omega), if_pos (by omega), if_pos (by omega), hr, refClass_eq k hk, Option.bind_some, if_neg hny, w64i _ (by omega) (by omega)]
      have e2 : (((X ++ u').length : Nat) : Int) - 1 = ((X.length + u'.length : Nat) : Int) - 1 := by rw [List.length_append]
      rw [e2]
theorem nfc_blk {R : List Int} (L : List Int) (r : Int) (t : List Int) (s : Int) (hl : L.length ≤ 1000000) (i : Nat) :
    ∀ (u X : List Int), L = X ++ (u ++ r :: t) → i = X.length + u.length → (∀ y ∈ u, clsU y ≠ 0) →
      ((∃ y ∈ u, clsU r ≤ clsU y) → Ev (fun k => portcullisref04_NFC.l0 k L ((i : Int) + 1)) R) →
      ((¬ ∃ y ∈ u, clsU r ≤ clsU y) → ∀ z, Ev (fun k => portcullisref04_NFC.j4 k L (i : Int) s false z false) R) →
      Ev (fun k => portcullisref04_NFC.l2 k L (i : Int) s false (X.length : Int)) R
  | [], X, hL, hi, hnz, h1, h2 => by
    refine Ev.step (fun k => ?_) (h2 (by simp) (X.length : Int))
    rw [portcullisref04_NFC.l2, if_neg (by simp at hi; omega)]
  | y :: u, X, hL, hi, hnz, h1, h2 => by
    have hlen : L.length = X.length + (u.length + (t.length + 2)) := by rw [hL]; simp; omega
    have hi' : i = X.length + (u.length + 1) := hi
    have hy : rd L (X.length : Int) = y := by rw [hL]; exact rd_app X _ y
    have hr : rd L (i : Int) = r := by
      have : L = (X ++ y :: u) ++ r :: t := by rw [hL]; simp
      rw [this, show i = (X ++ y :: u).length by simp; omega]
      exact rd_app _ _ r
    have hny : ¬ clsU y = 0 := hnz y List.mem_cons_self
    have hs : ∀ k, 100 ≤ k → portcullisref04_NFC.j4 (k + 1) L (i : Int) s false (X.length : Int) true = portcullisref04_NFC.l2 k L (i : Int) s (decide (clsU y ≥ clsU r)) (((X ++ [y]).length : Nat) : Int) := fun k hk => by
      rw [portcullisref04_NFC.j4, if_pos rfl, if_pos (by omega), if_pos (by omega), hy, refClass_eq k hk, Option.bind_some, if_neg hny, Option.bind_some, if_pos (by omega), if_pos (by omega), hr, refClass_eq k hk, Option.bind_some, w64i _ (by omega) (by omega)]
      simp only [List.length_append, List.length_cons, List.length_nil]
      rfl
    refine Ev.step (f := fun k => portcullisref04_NFC.j4 k L (i : Int) s false (X.length : Int) true) (fun k => ?_) ?_
    · rw [portcullisref04_NFC.l2, if_pos (by omega)]
      rfl
    · refine Ev.stepG 100 hs ?_
      by_cases c : clsU y ≥ clsU r
      · rw [decide_eq_true c]
        have h3 := h1 ⟨y, List.mem_cons_self, c⟩
        refine Ev.step (f := fun k => portcullisref04_NFC.j4 k L (i : Int) s true (((X ++ [y]).length : Nat) : Int) false) (fun k => ?_) ?_
        · rw [portcullisref04_NFC.l2]
          split
          · rfl
          · rfl
        · refine Ev.step (fun k => ?_) h3
          rw [portcullisref04_NFC.j4, if_neg (by decide), if_pos rfl, w64i _ (by omega) (by omega)]
      · rw [decide_eq_false c]
        refine nfc_blk L r t s hl i u (X ++ [y]) (by rw [hL]; simp) (by rw [List.length_append]; simp; omega) (fun z hz => hnz z (List.mem_cons_of_mem _ hz)) (fun ⟨z, hz, hc⟩ => h1 ⟨z, List.mem_cons_of_mem _ hz, hc⟩) (fun hno => h2 fun ⟨z, hz, hc⟩ => ?_)
        rcases List.mem_cons.1 hz with rfl | hz
        · exact c hc
        · exact hno ⟨z, hz, hc⟩
theorem refNFC_l0 : ∀ (rest done : List Int) (st : Option Int) (seg : List Int) (last prev : Int), CmpI seg rest last prev → (st = none → done = []) → (∀ s, st = some s → clsU s = 0) → (seg ≠ [] → ∃ y ∈ seg, clsU y = last) →
    1 ≤ (outU done st seg).length → (outU done st seg ++ rest).length ≤ 1000000 →
    Ev (fun k => portcullisref04_NFC.l0 k (outU done st seg ++ rest) ((outU done st seg).length : Int)) (cpsU rest done st seg last)
  | [], done, st, seg, last, prev, h, hn, hs, hla, h1, hl => by
    have e : cpsU [] done st seg last = outU done st seg := by cases st <;> simp [cpsU, outU]
    rw [e, List.append_nil]
    exact Ev.one fun k => by rw [portcullisref04_NFC.l0, if_neg (by omega)]
  | r :: t, done, st, seg, last, prev, h, hn, hs, hla, h1, hl => by
    have hlen : (outU done st seg ++ r :: t).length = (outU done st seg).length + (t.length + 1) := by rw [List.length_append]; rfl
    have hwi : wrap64 (((outU done st seg).length : Int) - 1) = ((outU done st seg).length : Int) - 1 := w64i _ (by omega) (by omega)
    have go : ∀ st', Ev (fun k => portcullisref04_NFC.l1 k (outU done st seg ++ r :: t) ((outU done st seg).length : Int) (((outU done st seg).length : Int) - 1)) st' → Ev (fun k => portcullisref04_NFC.l0 k (outU done st seg ++ r :: t) ((outU done st seg).length : Int)) st' := fun st' h => by
      refine Ev.step (fun k => ?_) h
      rw [portcullisref04_NFC.l0, if_pos (by omega), hwi]
    -- the next one, pushed
    have push : Ev (fun k => portcullisref04_NFC.l0 k (outU done st seg ++ r :: t) (((outU done st seg).length : Int) + 1)) (if clsU r = 0 then cpsU t (outU done st seg) (some r) [] 0 else cpsU t done st (seg ++ [r]) (clsU r)) := by
      by_cases hz : clsU r = 0
      · have e3 : outU (outU done st seg) (some r) [] = outU done st seg ++ [r] := by simp [outU]
        have e2 : outU done st seg ++ r :: t = outU (outU done st seg) (some r) [] ++ t := by rw [e3]; simp
        have e4 : ((outU done st seg).length : Int) + 1 = ((outU (outU done st seg) (some r) []).length : Int) := by rw [e3]; simp
        rw [if_pos hz, e4]
        rw [e2] at hl ⊢
        exact refNFC_l0 t (outU done st seg) (some r) [] 0 0 (h.zero hz) (fun h => by cases h) (fun s h => by cases h; exact hz) (fun h => absurd rfl h) (by rw [e3]; simp) hl
      · have e3 : outU done st (seg ++ [r]) = outU done st seg ++ [r] := by simp [outU]
        have e2 : outU done st seg ++ r :: t = outU done st (seg ++ [r]) ++ t := by rw [e3]; simp
        have e4 : ((outU done st seg).length : Int) + 1 = ((outU done st (seg ++ [r])).length : Int) := by rw [e3]; simp
        rw [if_neg hz, e4]
        rw [e2] at hl ⊢
        exact refNFC_l0 t done st (seg ++ [r]) (clsU r) (clsU r) (h.push hz) hn hs (fun _ => ⟨r, by simp, rfl⟩) (by rw [e3]; simp) hl
    cases st with
    | none =>
      have hd := hn rfl
      subst hd
      have e : cpsU (r :: t) [] none seg last = if clsU r = 0 then cpsU t (outU [] none seg) (some r) [] 0 else cpsU t [] none (seg ++ [r]) (clsU r) := by rw [cpsU]; rfl
      rw [e]
      refine go _ ?_
      have e1 : ((outU [] none seg).length : Int) - 1 = ((([] : List Int).length + seg.length : Nat) : Int) - 1 := by simp [outU]
      rw [e1]
      refine nfc_down _ _ hl [] [] ?_ seg.length seg rfl h.nz ⟨r :: t, by simp [outU]⟩
      refine Ev.step (f := fun k => portcullisref04_NFC.j2 k (outU [] none seg ++ r :: t) ((outU [] none seg).length : Int) (-1)) (fun k => ?_) ?_
      · rw [portcullisref04_NFC.l1, if_neg (by decide)]
        rfl
      · refine Ev.step (f := fun k => portcullisref04_NFC.l2 k (outU [] none seg ++ r :: t) ((outU [] none seg).length : Int) (-1) true 0) (fun k => ?_) ?_
        · rw [portcullisref04_NFC.j2, decide_eq_true (by decide : (-1 : Int) < 0), w64i _ (by omega) (by omega)]
          rfl
        · refine Ev.step (f := fun k => portcullisref04_NFC.j4 k (outU [] none seg ++ r :: t) ((outU [] none seg).length : Int) (-1) true 0 false) (fun k => ?_) ?_
          · rw [portcullisref04_NFC.l2]
            split
            · rfl
            · rfl
          · refine Ev.step (fun k => ?_) push
            rw [portcullisref04_NFC.j4, if_neg (by decide), if_pos rfl, w64i _ (by omega) (by omega)]
    | some s =>
      have hs0 : clsU s = 0 := hs s rfl
      refine go _ ?_
      have eo : outU done (some s) seg = (done ++ [s]) ++ seg := by simp [outU]
      have elo : (outU done (some s) seg).length = (done ++ [s]).length + seg.length := by rw [eo, List.length_append]
      have elo2 : (done ++ [s]).length = done.length + 1 := by simp
      have eL : outU done (some s) seg ++ r :: t = (done ++ [s]) ++ (seg ++ r :: t) := by rw [eo]; simp
      have eL2 : outU done (some s) seg ++ r :: t = done ++ s :: (seg ++ r :: t) := by rw [eo]; simp
      have hrs : rd (outU done (some s) seg ++ r :: t) (done.length : Int) = s := by rw [eL2]; exact rd_app done _ s
      have hrr : rd (outU done (some s) seg ++ r :: t) ((outU done (some s) seg).length : Int) = r := rd_app _ _ r
      have e1 : ((outU done (some s) seg).length : Int) - 1 = (((done ++ [s]).length + seg.length : Nat) : Int) - 1 := by rw [elo]
      rw [e1]
      refine nfc_down _ _ hl (done ++ [s]) [] ?_ seg.length seg rfl h.nz ⟨r :: t, eL⟩
      have e5 : (((done ++ [s]).length : Nat) : Int) - 1 = (done.length : Int) := by omega
      rw [e5]
      refine Ev.stepG (f := fun k => portcullisref04_NFC.j2 k (outU done (some s) seg ++ r :: t) ((outU done (some s) seg).length : Int) (done.length : Int)) 100 (fun k hk => ?_) ?_
      · rw [portcullisref04_NFC.l1, if_pos (by omega), if_pos (by omega), if_pos (by omega), hrs, refClass_eq k hk, Option.bind_some, if_pos hs0]
      refine Ev.step (f := fun k => portcullisref04_NFC.l2 k (outU done (some s) seg ++ r :: t) ((outU done (some s) seg).length : Int) (done.length : Int) false (((done ++ [s]).length : Nat) : Int)) (fun k => ?_) ?_
      · rw [portcullisref04_NFC.j2, w64i _ (by omega) (by omega), decide_eq_false (show ¬ (done.length : Int) < 0 by omega), show (done.length : Int) + 1 = (((done ++ [s]).length : Nat) : Int) by omega]
      have hbl : (¬ ∃ y ∈ seg, clsU r ≤ clsU y) ↔ (seg = [] ∨ (last ≠ 0 ∧ last < clsU r)) := by
        constructor
        · intro hno
          by_cases hseg : seg = []
          · exact .inl hseg
          · obtain ⟨y, hy, hyl⟩ := hla hseg
            have a1 := h.nz y hy
            have a2 : ¬ clsU r ≤ clsU y := fun hc => hno ⟨y, hy, hc⟩
            exact .inr ⟨by omega, by omega⟩
        · rintro (rfl | hc) ⟨y, hy, hyr⟩
          · simp at hy
          · have := h.le y hy
            omega
      have hpush : ¬ ((seg = [] ∨ (last ≠ 0 ∧ last < clsU r)) ∧ (prU s r).2 = true) → Ev (fun k => portcullisref04_NFC.l0 k (outU done (some s) seg ++ r :: t) (((outU done (some s) seg).length : Int) + 1)) (cpsU (r :: t) done (some s) seg last) := fun hc => by
        have e : cpsU (r :: t) done (some s) seg last = if clsU r = 0 then cpsU t (outU done (some s) seg) (some r) [] 0 else cpsU t done (some s) (seg ++ [r]) (clsU r) := by rw [cpsU, if_neg hc]; rfl
        rw [e]
        exact push
      refine nfc_blk _ r t (done.length : Int) hl (outU done (some s) seg).length seg (done ++ [s]) eL elo h.nz (fun hb => hpush fun hc => ?_) (fun hb z => ?_)
      · exact hbl.2 hc.1 hb
      · have hb' := hbl.1 hb
        by_cases hp : (prU s r).2 = true
        · have e : cpsU (r :: t) done (some s) seg last = cpsU t done (some (prU s r).1) seg last := by rw [cpsU, if_pos ⟨hb', hp⟩]
          rw [e]
          have hpi := pair_in hp
          have e6 : (outU done (some (prU s r).1) seg).length = (outU done (some s) seg).length := by simp [outU]
          have IH := refNFC_l0 t done (some (prU s r).1) seg last (clsU r) (h.take hpi.2.1) (fun h => by cases h) (fun q hq => by cases hq; exact hpi.1) hla (by omega) (by rw [List.length_append] at hl ⊢; simp only [List.length_cons] at hl; omega)
          refine Ev.stepG 100 (fun k hk => ?_) IH
          have hset : (outU done (some s) seg ++ r :: t).set ((done.length : Int)).toNat (prU s r).1 = outU done (some (prU s r).1) seg ++ r :: t := by
            rw [Int.toNat_natCast, eL2, List.set_append_right _ _ (Nat.le_refl _), Nat.sub_self, List.set_cons_zero]
            simp [outU]
          have htk : (outU done (some (prU s r).1) seg ++ r :: t).take (((outU done (some s) seg).length : Int)).toNat = outU done (some (prU s r).1) seg := by
            rw [Int.toNat_natCast, ← e6]
            exact List.take_left
          have hdr : (outU done (some (prU s r).1) seg ++ r :: t).drop ((((outU done (some s) seg).length : Int)) + 1).toNat = t := by
            have e7 : ((((outU done (some s) seg).length : Int)) + 1).toNat = (outU done (some (prU s r).1) seg).length + 1 := by omega
            rw [e7, List.drop_append, List.drop_eq_nil_of_le (by omega), Nat.add_sub_cancel_left]
            rfl
          rw [portcullisref04_NFC.j4, if_neg (by decide), if_neg (by decide), if_pos (by omega), if_pos (by omega), if_pos (by omega), if_pos (by omega), hrs, hrr, refPr k hk, Option.bind_some, if_pos hp, hset, Option.bind_some, if_pos (by omega), htk, Option.bind_some, List.nil_append, if_pos (by simp only [List.length_nil]; omega), Option.bind_some, w64i _ (by omega) (by omega), if_pos (by omega), if_pos (by omega), hdr, Option.bind_some, if_pos (by omega), e6]
        · refine Ev.stepG 100 (fun k hk => ?_) (hpush fun hc => hp hc.2)
          rw [portcullisref04_NFC.j4, if_neg (by decide), if_neg (by decide), if_pos (by omega), if_pos (by omega), if_pos (by omega), if_pos (by omega), hrs, hrr, refPr k hk, Option.bind_some, if_neg hp, w64i _ (by omega) (by omega)]
theorem refNFC_is (l : List Int) (hl : l.length ≤ 60000) : Ev (fun k => portcullisref04_NFC.f k l) (nfcU l) := by
  obtain ⟨K, hK⟩ := refNFD_is l hl
  have hn := nfd_len l
  have key : Ev (fun k => portcullisref04_NFC.l0 k (nfdU l) 1) (nfcU l) := by
    unfold nfcU
    have hst := nfd_start l
    cases hd : nfdU l with
    | nil => exact Ev.one fun k => by rw [portcullisref04_NFC.l0, if_neg (by simp)]; rfl
    | cons x t =>
      rw [hd] at hst hn
      simp only [List.length_cons] at hn
      by_cases hz : clsU x = 0
      · have e : cpsU (x :: t) [] none [] 0 = cpsU t [] (some x) [] 0 := by rw [cpsU, if_pos hz]; rfl
        rw [e]
        exact refNFC_l0 t [] (some x) [] 0 0 (hst.zero hz) (fun h => by cases h) (fun s h => by cases h; exact hz) (fun h => absurd rfl h) (by simp [outU]) (by simp [outU]; omega)
      · have e : cpsU (x :: t) [] none [] 0 = cpsU t [] none [x] (clsU x) := by rw [cpsU, if_neg hz]; rfl
        rw [e]
        exact refNFC_l0 t [] none [x] (clsU x) (clsU x) (hst.push hz) (fun _ => rfl) (fun s h => by cases h) (fun _ => ⟨x, by simp, rfl⟩) (by simp [outU]) (by simp [outU]; omega)
  obtain ⟨K2, hK2⟩ := key
  refine ⟨K + K2, fun k hk => ?_⟩
  have e1 := hK k (by omega)
  have e2 := hK2 k (by omega)
  simp only at e1 e2 ⊢
  unfold portcullisref04_NFC.f
  rw [e1, Option.bind_some, e2]
end Go.Proofs.YtanpephfnjnfoaaDoor.Pr
end

section
namespace Go.Proofs.YtanpephfnjnfoaaDoor.Pr
open Go.RowKit Go.Proofs.YtanpephfnjnfoaaDoorW.PrintWords Go.Proofs.YtanpephfnjnfoaaDoorW.PrintLast Go.Proofs.YtanpephfnjnfoaaDoorW.PrintMore
set_option linter.unusedVariables false
set_option linter.unusedSimpArgs false

def ints (t : List UInt8) : List Int := t.map fun c => (c.toNat : Int)
theorem strOfNums_ints (t : List UInt8) : strOfNums (ints t) = mkB t := by
  unfold strOfNums ints mkB
  rw [List.map_map]
  have e2 : t.map ((fun n : Int => UInt8.ofNat n.toNat) ∘ fun c : UInt8 => (c.toNat : Int)) = t := by
    conv => rhs; rw [← List.map_id t]
    exact List.map_congr_left fun c _ => by simp
  rw [e2]
theorem bt_mkB (s : List UInt8) (i : Nat) (h : i < s.length) : bt (mkB s) (i : Int) = (s[i].toNat : Int) := by
  have hs : (i : Int).toNat < (mkB s).size := by rw [mkB_size]; exact h
  rw [← bt_at (mkB s) (i : Int) hs]
  have e : (mkB s).data.toList[i]? = some ((mkB s)[(i : Int).toNat]'hs) := by
    have := Lib.data_getElem? (mkB s) i (by rw [mkB_size]; exact h)
    exact this
  rw [data_mkB, List.getElem?_eq_getElem h] at e
  rw [← Option.some.inj e]
theorem ext_take (t : List UInt8) (m : Nat) : (mkB t).extract 0 m = mkB (t.take m) := by
  apply ByteArray.ext
  rw [ByteArray.data_extract]
  unfold mkB
  simp
theorem ext_drop (t : List UInt8) (m : Nat) : (mkB t).extract m (mkB t).size = mkB (t.drop m) := by
  apply ByteArray.ext
  rw [ByteArray.data_extract, mkB_size]
  unfold mkB
  simp [List.take_of_length_le]
theorem str_inj {xs : List Int} (hx : ∀ x ∈ xs, 0 ≤ x ∧ x < 256) (t : List UInt8) : ((strOfNums xs).toList == (mkB t).toList) = decide (xs = ints t) := by
  have e : xs = ints (xs.map fun x => x.toNat.toUInt8) := by
    unfold ints
    rw [List.map_map]
    symm
    conv => rhs; rw [← List.map_id xs]
    refine List.map_congr_left fun x h => ?_
    have := hx x h
    simp
    omega
  generalize (xs.map fun x => x.toNat.toUInt8) = u at e
  subst e
  rw [strOfNums_ints, Lib.toList_data, Lib.toList_data, data_mkB, data_mkB]
  have hinj : ints u = ints t ↔ u = t := by
    constructor
    · intro h
      have h2 := congrArg (List.map fun x : Int => x.toNat.toUInt8) h
      unfold ints at h2
      rw [List.map_map, List.map_map] at h2
      have hid : ((fun x : Int => x.toNat.toUInt8) ∘ fun c : UInt8 => (c.toNat : Int)) = id := by
        funext c
        simp
      rw [hid, List.map_id, List.map_id] at h2
      exact h2
    · rintro rfl; rfl
  rw [decide_eq_decide.2 hinj]
  by_cases h : u = t
  · rw [decide_eq_true h, h]; simp
  · rw [decide_eq_false h]
    exact beq_eq_false_iff_ne.2 h

def v2 (a b : Int) : Int := (a - 192) * 64 + b - 128
def v3 (a b c : Int) : Int := ((a - 224) * 64 + b - 128) * 64 + c - 128
def v4 (a b c d : Int) : Int := (((a - 240) * 64 + b - 128) * 64 + c - 128) * 64 + d - 128
def P2 (a b : Int) : Prop := 194 ≤ a ∧ a ≤ 223 ∧ 128 ≤ b ∧ b ≤ 191
def P3 (a b : Int) : Prop := 224 ≤ a ∧ a ≤ 239 ∧ 128 ≤ b ∧ b ≤ 191 ∧ (a = 224 → 160 ≤ b) ∧ (a = 237 → b ≤ 159)
def P4 (a b : Int) : Prop := 240 ≤ a ∧ a ≤ 244 ∧ 128 ≤ b ∧ b ≤ 191 ∧ (a = 240 → 144 ≤ b) ∧ (a = 244 → b ≤ 143)
def C8 (c : Int) : Prop := 128 ≤ c ∧ c ≤ 191
instance (a b : Int) : Decidable (P2 a b) := by unfold P2; infer_instance
instance (a b : Int) : Decidable (P3 a b) := by unfold P3; infer_instance
instance (a b : Int) : Decidable (P4 a b) := by unfold P4; infer_instance
instance (c : Int) : Decidable (C8 c) := by unfold C8; infer_instance
abbrev ub (a : UInt8) : Int := (a.toNat : Int)
theorem ub_rng (a : UInt8) : 0 ≤ ub a ∧ ub a ≤ 255 := by
  have := a.toNat_lt
  unfold ub
  omega
def nxL : List UInt8 → Int × Int × Bool
  | [] => (0, 0, false)
  | [a] => if ub a < 128 then (ub a, 1, true) else (65533, 1, false)
  | [a, b] => if ub a < 128 then (ub a, 1, true) else if P2 (ub a) (ub b) then (v2 (ub a) (ub b), 2, true) else if P3 (ub a) (ub b) ∨ P4 (ub a) (ub b) then (65533, 2, false) else (65533, 1, false)
  | [a, b, c] => if ub a < 128 then (ub a, 1, true) else if P2 (ub a) (ub b) then (v2 (ub a) (ub b), 2, true)
      else if P3 (ub a) (ub b) then (if C8 (ub c) then (v3 (ub a) (ub b) (ub c), 3, true) else (65533, 2, false))
      else if P4 (ub a) (ub b) then (if C8 (ub c) then (65533, 3, false) else (65533, 2, false)) else (65533, 1, false)
  | a :: b :: c :: d :: _ => if ub a < 128 then (ub a, 1, true) else if P2 (ub a) (ub b) then (v2 (ub a) (ub b), 2, true)
      else if P3 (ub a) (ub b) then (if C8 (ub c) then (v3 (ub a) (ub b) (ub c), 3, true) else (65533, 2, false))
      else if P4 (ub a) (ub b) then (if C8 (ub c) then (if C8 (ub d) then (v4 (ub a) (ub b) (ub c) (ub d), 4, true) else (65533, 3, false)) else (65533, 2, false)) else (65533, 1, false)

def Scal (c : Int) : Prop := 0 ≤ c ∧ c ≤ 1114111 ∧ (c < 55296 ∨ 57343 < c)
instance (c : Int) : Decidable (Scal c) := by unfold Scal; infer_instance
theorem scalar_is (c : Int) : portcullisref01_Scalar.f c = some (decide (Scal c)) := by
  unfold portcullisref01_Scalar.f
  by_cases h1 : c ≥ 0
  · by_cases h2 : c ≤ 1114111
    · by_cases h3 : c < 55296
      · rw [if_pos h1, if_pos h2, if_pos h3, decide_eq_true (show Scal c from ⟨h1, h2, .inl h3⟩)]
      · rw [if_pos h1, if_pos h2, if_neg h3]
        congr 1
        rw [decide_eq_decide]
        unfold Scal
        omega
    · rw [if_pos h1, if_neg h2, decide_eq_false (fun h => h2 h.2.1)]
  · rw [if_neg h1, decide_eq_false (fun h => h1 h.1)]
theorem w32 (n : Int) (h : -2147483648 ≤ n ∧ n ≤ 2147483647) : wrap32 n = n := IntWalk.wrap32_in n h
theorem bytes_is (c : Int) (h : Scal c) : portcullisref01_Bytes.f c = some (strOfNums (Lib.encodeRuneZ c)) := by
  unfold Scal at h
  have e1 : Int.tdiv c 64 = c / 64 := Int.tdiv_eq_ediv_of_nonneg (by omega)
  have e2 : Int.tdiv c 4096 = c / 4096 := Int.tdiv_eq_ediv_of_nonneg (by omega)
  have e3 : Int.tdiv c 262144 = c / 262144 := Int.tdiv_eq_ediv_of_nonneg (by omega)
  have f1 : Int.tmod c 64 = c % 64 := Int.tmod_eq_emod_of_nonneg (by omega)
  have f2 : Int.tmod (c / 64) 64 = c / 64 % 64 := Int.tmod_eq_emod_of_nonneg (by omega)
  have f3 : Int.tmod (c / 4096) 64 = c / 4096 % 64 := Int.tmod_eq_emod_of_nonneg (by omega)
  unfold portcullisref01_Bytes.f
  rw [e1, e2, e3, f1, w32 (c / 64) (by omega), w32 (c / 4096) (by omega), w32 (c / 262144) (by omega), f2, f3]
  by_cases h1 : c < 128
  · rw [if_pos h1, if_pos (by decide), Lib.encodeRuneZ_one h.1 (by omega), List.nil_append, show c % 256 = c by omega]
  · rw [if_neg h1]
    by_cases h2 : c < 2048
    · rw [if_pos h2, Option.bind_some, if_pos (by simp), Lib.encodeRuneZ_two (by omega) (by omega), List.nil_append, w32 (192 + c / 64) (by omega), w32 (128 + c % 64) (by omega), show (192 + c / 64) % 256 = 192 + c / 64 by omega, show (128 + c % 64) % 256 = 128 + c % 64 by omega]
    · rw [if_neg h2]
      by_cases h3 : c < 65536
      · rw [if_pos h3, Option.bind_some, if_pos (by simp), Lib.encodeRuneZ_three (by omega), List.nil_append, w32 (224 + c / 4096) (by omega), w32 (128 + c / 64 % 64) (by omega), w32 (128 + c % 64) (by omega), show (224 + c / 4096) % 256 = 224 + c / 4096 by omega, show (128 + c / 64 % 64) % 256 = 128 + c / 64 % 64 by omega, show (128 + c % 64) % 256 = 128 + c % 64 by omega]
      · rw [if_neg h3, Option.bind_some, if_pos (by simp), Lib.encodeRuneZ_four (by omega) (by omega), List.nil_append, w32 (240 + c / 262144) (by omega), w32 (128 + c / 4096 % 64) (by omega), w32 (128 + c / 64 % 64) (by omega), w32 (128 + c % 64) (by omega), show (240 + c / 262144) % 256 = 240 + c / 262144 by omega, show (128 + c / 4096 % 64) % 256 = 128 + c / 4096 % 64 by omega, show (128 + c / 64 % 64) % 256 = 128 + c / 64 % 64 by omega, show (128 + c % 64) % 256 = 128 + c % 64 by omega]
theorem value_l0 (k : Nat) (t : List UInt8) (x : Int) (i : Nat) (hi : i < t.length) (hl : t.length ≤ 4) (hx : -1000000 ≤ x ∧ x ≤ 1000000) :
    portcullisref01_value.l0 (k + 1) (mkB t) x (i : Int) = portcullisref01_value.l0 k (mkB t) (x * 64 + ub t[i] - 128) ((i + 1 : Nat) : Int) := by
  have hb := ub_rng t[i]
  rw [portcullisref01_value.l0, if_pos (by rw [mkB_size]; omega), if_pos (by omega), bt_mkB t i hi]
  show portcullisref01_value.l0 k (mkB t) (wrap32 (wrap32 (wrap32 (x * 64) + wrap32 (ub t[i])) - 128)) _ = _
  rw [w32 (x * 64) (by omega), w32 (ub t[i]) (by omega), w32 (x * 64 + ub t[i]) (by omega), w32 _ (by omega), w64n i (by omega)]
theorem value_end (k : Nat) (t : List UInt8) (x : Int) (i : Nat) (hi : i = t.length) : portcullisref01_value.l0 (k + 1) (mkB t) x (i : Int) = some x := by
  rw [portcullisref01_value.l0, if_neg (by rw [mkB_size]; omega)]
def valL : List UInt8 → Int
  | [a] => ub a
  | [a, b] => v2 (ub a) (ub b)
  | [a, b, c] => v3 (ub a) (ub b) (ub c)
  | [a, b, c, d] => v4 (ub a) (ub b) (ub c) (ub d)
  | _ => 0
theorem value_is (k : Nat) (t : List UInt8) (h0 : 1 ≤ t.length) (h4 : t.length ≤ 4) : portcullisref01_value.f (k + 5) (mkB t) = some (valL t) := by
  have hz : ∀ (u : List UInt8) (h : 0 < u.length), bt (mkB u) 0 = ub u[0] := fun u h => bt_mkB u 0 h
  match t, h0, h4 with
  | [a], _, _ =>
    have ha := ub_rng a
    have hsz : ((mkB [a]).size : Int) = 1 := by rw [mkB_size]; rfl
    unfold portcullisref01_value.f
    rw [hsz, if_pos (by decide), if_neg (by decide), if_neg (by decide), if_neg (by decide), hz _ (by simp), portcullisref01_value.j0]
    show portcullisref01_value.l0 (k + 3 + 1) (mkB [a]) (wrap32 (ub a)) ((1 : Nat) : Int) = _
    rw [w32 (ub a) (by omega)]
    exact value_end (k + 3) [a] _ 1 rfl
  | [a, b], _, _ =>
    have ha := ub_rng a
    have hsz : ((mkB [a, b]).size : Int) = 2 := by rw [mkB_size]; rfl
    unfold portcullisref01_value.f
    rw [hsz, if_pos (by decide), if_pos (by decide), hz _ (by simp), portcullisref01_value.j0]
    show portcullisref01_value.l0 (k + 3 + 1) (mkB [a, b]) (wrap32 (wrap32 (ub a) - 192)) ((1 : Nat) : Int) = _
    rw [w32 (ub a) (by omega), w32 (ub a - 192) (by omega), value_l0 _ _ _ _ (by simp) (by simp) (by omega)]
    exact value_end (k + 2) [a, b] _ 2 rfl
  | [a, b, c], _, _ =>
    have ha := ub_rng a
    have hb := ub_rng b
    have hsz : ((mkB [a, b, c]).size : Int) = 3 := by rw [mkB_size]; rfl
    unfold portcullisref01_value.f
    rw [hsz, if_pos (by decide), if_neg (by decide), if_pos (by decide), hz _ (by simp), portcullisref01_value.j0]
    show portcullisref01_value.l0 (k + 3 + 1) (mkB [a, b, c]) (wrap32 (wrap32 (ub a) - 224)) ((1 : Nat) : Int) = _
    rw [w32 (ub a) (by omega), w32 (ub a - 224) (by omega), value_l0 _ _ _ _ (by simp) (by simp) (by omega)]
    show portcullisref01_value.l0 (k + 2 + 1) (mkB [a, b, c]) ((ub a - 224) * 64 + ub b - 128) ((2 : Nat) : Int) = _
    rw [value_l0 _ _ _ _ (by simp) (by simp) (by omega)]
    exact value_end (k + 1) [a, b, c] _ 3 rfl
  | [a, b, c, d], _, _ =>
    have ha := ub_rng a
    have hb := ub_rng b
    have hc := ub_rng c
    have hsz : ((mkB [a, b, c, d]).size : Int) = 4 := by rw [mkB_size]; rfl
    unfold portcullisref01_value.f
    rw [hsz, if_pos (by decide), if_neg (by decide), if_neg (by decide), if_pos (by decide), hz _ (by simp), portcullisref01_value.j0]
    show portcullisref01_value.l0 (k + 3 + 1) (mkB [a, b, c, d]) (wrap32 (wrap32 (ub a) - 240)) ((1 : Nat) : Int) = _
    rw [w32 (ub a) (by omega), w32 (ub a - 240) (by omega), value_l0 _ _ _ _ (by simp) (by simp) (by omega)]
    show portcullisref01_value.l0 (k + 2 + 1) (mkB [a, b, c, d]) ((ub a - 240) * 64 + ub b - 128) ((2 : Nat) : Int) = _
    rw [value_l0 _ _ _ _ (by simp) (by simp) (by omega)]
    show portcullisref01_value.l0 (k + 1 + 1) (mkB [a, b, c, d]) (((ub a - 240) * 64 + ub b - 128) * 64 + ub c - 128) ((3 : Nat) : Int) = _
    rw [value_l0 _ _ _ _ (by simp) (by simp) (by omega)]
    exact value_end (k + 0) [a, b, c, d] _ 4 rfl
def Whole (t : List UInt8) : Prop := Scal (valL t) ∧ Lib.encodeRuneZ (valL t) = ints t
instance (t : List UInt8) : Decidable (Whole t) := by unfold Whole; infer_instance
theorem whole_is (k : Nat) (t : List UInt8) (h0 : 1 ≤ t.length) (h4 : t.length ≤ 4) : portcullisref01_whole.f (k + 5) (mkB t) = some (decide (Whole t)) := by
  unfold portcullisref01_whole.f
  rw [value_is k t h0 h4, Option.bind_some, scalar_is, Option.bind_some]
  by_cases h : Scal (valL t)
  · rw [if_pos (decide_eq_true h), bytes_is _ h, Option.bind_some, str_inj (Lib.encodeRuneZ_byte _)]
    congr 1
    rw [decide_eq_decide]
    exact ⟨fun e => ⟨h, e⟩, fun e => e.2⟩
  · rw [if_neg (by rw [decide_eq_false h]; decide), decide_eq_false (fun e => h e.1)]
theorem ints1 (a : UInt8) : ints [a] = [ub a] := rfl
theorem ints2 (a b : UInt8) : ints [a, b] = [ub a, ub b] := rfl
theorem ints3 (a b c : UInt8) : ints [a, b, c] = [ub a, ub b, ub c] := rfl
theorem ints4 (a b c d : UInt8) : ints [a, b, c, d] = [ub a, ub b, ub c, ub d] := rfl
theorem whole1 (a : UInt8) : Whole [a] ↔ ub a < 128 := by
  have ha := ub_rng a
  unfold Whole
  rw [ints1]
  show Scal (ub a) ∧ Lib.encodeRuneZ (ub a) = [ub a] ↔ ub a < 128
  unfold Scal
  constructor
  · rintro ⟨h, e⟩
    false_or_by_contra
    rw [Lib.encodeRuneZ_two (by omega) (by omega)] at e
    simp at e
  · intro h
    exact ⟨by omega, Lib.encodeRuneZ_one (by omega) (by omega)⟩
theorem encZ_cases {c : Int} (h : Scal c) : (c ≤ 127 ∧ Lib.encodeRuneZ c = [c]) ∨ (128 ≤ c ∧ c ≤ 2047 ∧ Lib.encodeRuneZ c = [192 + c / 64, 128 + c % 64]) ∨
    (2048 ≤ c ∧ c ≤ 65535 ∧ Lib.encodeRuneZ c = [224 + c / 4096, 128 + c / 64 % 64, 128 + c % 64]) ∨ (65536 ≤ c ∧ Lib.encodeRuneZ c = [240 + c / 262144, 128 + c / 4096 % 64, 128 + c / 64 % 64, 128 + c % 64]) := by
  unfold Scal at h
  by_cases h1 : c ≤ 127
  · exact .inl ⟨h1, Lib.encodeRuneZ_one h.1 h1⟩
  · by_cases h2 : c ≤ 2047
    · exact .inr (.inl ⟨by omega, h2, Lib.encodeRuneZ_two (by omega) h2⟩)
    · by_cases h3 : c ≤ 65535
      · exact .inr (.inr (.inl ⟨by omega, h3, Lib.encodeRuneZ_three (by omega)⟩))
      · exact .inr (.inr (.inr ⟨by omega, Lib.encodeRuneZ_four (by omega) h.2.1⟩))
theorem whole2 (a b : UInt8) : Whole [a, b] ↔ P2 (ub a) (ub b) := by
  have ha := ub_rng a
  have hb := ub_rng b
  unfold Whole
  rw [ints2]
  show Scal (v2 (ub a) (ub b)) ∧ Lib.encodeRuneZ (v2 (ub a) (ub b)) = [ub a, ub b] ↔ _
  generalize ub a = a at *
  generalize ub b = b at *
  constructor
  · rintro ⟨h, e⟩
    rcases encZ_cases h with ⟨h1, e1⟩ | ⟨h1, h2, e1⟩ | ⟨h1, h2, e1⟩ | ⟨h1, e1⟩ <;> rw [e1] at e <;> simp only [List.cons.injEq, reduceCtorEq, and_false, and_true] at e
    · unfold v2 at e h1 h2; unfold P2; omega
  · intro h
    unfold P2 at h
    have hs : Scal (v2 a b) := by unfold Scal v2; omega
    refine ⟨hs, ?_⟩
    rcases encZ_cases hs with ⟨h1, e1⟩ | ⟨h1, h2, e1⟩ | ⟨h1, h2, e1⟩ | ⟨h1, e1⟩ <;> unfold v2 at h1
    · omega
    · rw [e1]; unfold v2; congr 1; omega; congr 1; omega
    · omega
    · omega
theorem whole3 (a b c : UInt8) : Whole [a, b, c] ↔ P3 (ub a) (ub b) ∧ C8 (ub c) := by
  have ha := ub_rng a
  have hb := ub_rng b
  have hc := ub_rng c
  unfold Whole
  rw [ints3]
  show Scal (v3 (ub a) (ub b) (ub c)) ∧ Lib.encodeRuneZ (v3 (ub a) (ub b) (ub c)) = [ub a, ub b, ub c] ↔ _
  generalize ub a = a at *
  generalize ub b = b at *
  generalize ub c = c at *
  constructor
  · rintro ⟨h, e⟩
    rcases encZ_cases h with ⟨h1, e1⟩ | ⟨h1, h2, e1⟩ | ⟨h1, h2, e1⟩ | ⟨h1, e1⟩ <;> rw [e1] at e <;> simp only [List.cons.injEq, reduceCtorEq, and_false, and_true] at e
    · unfold Scal at h; unfold v3 at e h1 h2 h; unfold P3 C8; omega
  · rintro ⟨h, hc8⟩
    unfold P3 at h
    unfold C8 at hc8
    have hs : Scal (v3 a b c) := by unfold Scal v3; omega
    refine ⟨hs, ?_⟩
    rcases encZ_cases hs with ⟨h1, e1⟩ | ⟨h1, h2, e1⟩ | ⟨h1, h2, e1⟩ | ⟨h1, e1⟩ <;> unfold v3 at h1
    · omega
    · unfold v3 at h2; omega
    · rw [e1]; unfold v3; congr 1; omega; congr 1; omega; congr 1; omega
    · omega
theorem whole4 (a b c d : UInt8) : Whole [a, b, c, d] ↔ P4 (ub a) (ub b) ∧ C8 (ub c) ∧ C8 (ub d) := by
  have ha := ub_rng a
  have hb := ub_rng b
  have hc := ub_rng c
  have hd := ub_rng d
  unfold Whole
  rw [ints4]
  show Scal (v4 (ub a) (ub b) (ub c) (ub d)) ∧ Lib.encodeRuneZ (v4 (ub a) (ub b) (ub c) (ub d)) = [ub a, ub b, ub c, ub d] ↔ _
  generalize ub a = a at *
  generalize ub b = b at *
  generalize ub c = c at *
  generalize ub d = d at *
  constructor
  · rintro ⟨h, e⟩
    rcases encZ_cases h with ⟨h1, e1⟩ | ⟨h1, h2, e1⟩ | ⟨h1, h2, e1⟩ | ⟨h1, e1⟩ <;> rw [e1] at e <;> simp only [List.cons.injEq, reduceCtorEq, and_false, and_true] at e
    · unfold Scal at h; unfold v4 at e h1 h; unfold P4 C8; omega
  · rintro ⟨h, hc8, hd8⟩
    unfold P4 at h
    unfold C8 at hc8 hd8
    have hs : Scal (v4 a b c d) := by unfold Scal v4; omega
    refine ⟨hs, ?_⟩
    rcases encZ_cases hs with ⟨h1, e1⟩ | ⟨h1, h2, e1⟩ | ⟨h1, h2, e1⟩ | ⟨h1, e1⟩ <;> unfold v4 at h1
    · omega
    · unfold v4 at h2; omega
    · unfold v4 at h2; omega
    · rw [e1]; unfold v4; congr 1; omega; congr 1; omega; congr 1; omega; congr 1; omega

def begL : List UInt8 → Bool
  | [a, b] => decide (P2 (ub a) (ub b) ∨ P3 (ub a) (ub b) ∨ P4 (ub a) (ub b))
  | [a, b, c] => decide ((P3 (ub a) (ub b) ∨ P4 (ub a) (ub b)) ∧ C8 (ub c))
  | _ => false
theorem bt0 (a : UInt8) (r : List UInt8) : bt (mkB (a :: r)) 0 = ub a := bt_mkB (a :: r) 0 (by simp)
theorem bt1 (a b : UInt8) (r : List UInt8) : bt (mkB (a :: b :: r)) 1 = ub b := bt_mkB (a :: b :: r) 1 (by simp)
theorem bt2 (a b c : UInt8) (r : List UInt8) : bt (mkB (a :: b :: c :: r)) 2 = ub c := bt_mkB (a :: b :: c :: r) 2 (by simp)
theorem bt3 (a b c d : UInt8) (r : List UInt8) : bt (mkB (a :: b :: c :: d :: r)) 3 = ub d := bt_mkB (a :: b :: c :: d :: r) 3 (by simp)
theorem some_dec {Q : Prop} [Decidable Q] {X : Option Bool} (h1 : Q → X = some true) (h2 : ¬ Q → X = some false) : X = some (decide Q) := by
  by_cases h : Q
  · rw [decide_eq_true h]; exact h1 h
  · rw [decide_eq_false h]; exact h2 h
set_option maxHeartbeats 4000000 in
theorem begins2 (k : Nat) (a b : UInt8) : portcullisref01_begins.f (k + 4) (mkB [a, b]) = some (begL [a, b]) := by
  have ha := ub_rng a
  have hb := ub_rng b
  have hsz : ((mkB [a, b]).size : Int) = 2 := by rw [mkB_size]; rfl
  unfold portcullisref01_begins.f
  rw [hsz, if_pos (by decide), if_pos (by decide), bt0, bt1]
  simp only [portcullisref01_begins.j0, portcullisref01_begins.j1, portcullisref01_begins.j2, hsz, if_true]
  show _ = some (decide (P2 (ub a) (ub b) ∨ P3 (ub a) (ub b) ∨ P4 (ub a) (ub b)))
  generalize ub a = a at *
  generalize ub b = b at *
  simp only [decide_eq_true_eq, Bool.false_eq_true, if_false, if_true, eq_self_iff_true]
  rcases (by omega : a < 194 ∨ (194 ≤ a ∧ a ≤ 223) ∨ a = 224 ∨ (225 ≤ a ∧ a ≤ 236) ∨ a = 237 ∨ (238 ≤ a ∧ a ≤ 239) ∨ a = 240 ∨ (241 ≤ a ∧ a ≤ 243) ∨ a = 244 ∨ 244 < a) with r | r | r | r | r | r | r | r | r | r
  all_goals (repeat (first | rw [if_pos (by omega)] | rw [if_neg (by omega)]))
  all_goals (refine some_dec (fun h => ?_) (fun h => ?_) <;> unfold P2 P3 P4 at h <;> (repeat (first | rw [if_pos (by omega)] | rw [if_neg (by omega)])))
  all_goals (repeat' split)
  all_goals first | rfl | (exfalso; omega) | (congr 1; rw [decide_eq_true_iff]; omega) | (congr 1; rw [decide_eq_false_iff_not]; omega)
set_option maxHeartbeats 4000000 in
theorem begins3 (k : Nat) (a b c : UInt8) : portcullisref01_begins.f (k + 4) (mkB [a, b, c]) = some (begL [a, b, c]) := by
  have ha := ub_rng a
  have hb := ub_rng b
  have hc := ub_rng c
  have hsz : ((mkB [a, b, c]).size : Int) = 3 := by rw [mkB_size]; rfl
  unfold portcullisref01_begins.f
  rw [hsz, if_pos (by decide), if_pos (by decide), bt0, bt1]
  simp only [portcullisref01_begins.j0, portcullisref01_begins.j1, portcullisref01_begins.j2, hsz, bt2, if_neg (show ¬ (3 : Int) = 2 by decide), if_pos (show (2 : Int) < 3 by decide)]
  show _ = some (decide ((P3 (ub a) (ub b) ∨ P4 (ub a) (ub b)) ∧ C8 (ub c)))
  generalize ub a = a at *
  generalize ub b = b at *
  generalize ub c = c at *
  simp only [decide_eq_true_eq, Bool.false_eq_true, if_false, if_true, eq_self_iff_true]
  rcases (by omega : a < 194 ∨ (194 ≤ a ∧ a ≤ 223) ∨ a = 224 ∨ (225 ≤ a ∧ a ≤ 236) ∨ a = 237 ∨ (238 ≤ a ∧ a ≤ 239) ∨ a = 240 ∨ (241 ≤ a ∧ a ≤ 243) ∨ a = 244 ∨ 244 < a) with r | r | r | r | r | r | r | r | r | r
  all_goals (repeat (first | rw [if_pos (by omega)] | rw [if_neg (by omega)]))
  all_goals (refine some_dec (fun h => ?_) (fun h => ?_) <;> unfold P3 P4 C8 at h <;> (repeat (first | rw [if_pos (by omega)] | rw [if_neg (by omega)])))
  all_goals (repeat' split)
  all_goals first | rfl | (exfalso; omega) | (congr 1; rw [decide_eq_true_iff]; omega) | (congr 1; rw [decide_eq_false_iff_not]; omega)
theorem begins_is (k : Nat) (t : List UInt8) (h : t.length = 2 ∨ t.length = 3) : portcullisref01_begins.f (k + 4) (mkB t) = some (begL t) := by
  match t, h with
  | [a, b], _ => exact begins2 k a b
  | [a, b, c], _ => exact begins3 k a b c
  | [], h => simp at h
  | [a], h => simp at h
  | a :: b :: c :: d :: r, h => simp at h
theorem nl0 (k : Nat) (t : List UInt8) (m : Nat) (h1 : 1 ≤ m) (h : m ≤ 4) (hl : m ≤ t.length) :
    portcullisref01_Next.l0 (k + 7) (mkB t) (m : Int) = if Whole (t.take m) then some (valL (t.take m), (m : Int), true) else portcullisref01_Next.l0 (k + 5) (mkB t) ((m + 1 : Nat) : Int) := by
  have hlt : (t.take m).length = m := by rw [List.length_take]; omega
  have hsz : ((mkB t).size : Int) = (t.length : Int) := by rw [mkB_size]
  rw [portcullisref01_Next.l0, if_pos (by omega), hsz, decide_eq_true (by omega), portcullisref01_Next.j1, if_pos rfl, if_pos (by omega), hsz, if_pos (by omega), Int.toNat_natCast, ext_take, whole_is k _ (by omega) (by omega), Option.bind_some, value_is k _ (by omega) (by omega), Option.bind_some, w64n m (by omega)]
  by_cases c : Whole (t.take m)
  · rw [if_pos c, if_pos (decide_eq_true c)]
  · rw [if_neg c, if_neg (by rw [decide_eq_false c]; decide)]
theorem nl0_end (k : Nat) (t : List UInt8) (m : Nat) (h : 4 < m ∨ t.length < m) : portcullisref01_Next.l0 (k + 2) (mkB t) (m : Int) = portcullisref01_Next.l1 k (mkB t) 1 := by
  have hsz : ((mkB t).size : Int) = (t.length : Int) := by rw [mkB_size]
  rw [portcullisref01_Next.l0, hsz]
  by_cases c : (m : Int) ≤ 4
  · rw [if_pos c, decide_eq_false (by omega), portcullisref01_Next.j1, if_neg (by decide)]
  · rw [if_neg c, portcullisref01_Next.j1, if_neg (by decide)]
theorem nl1 (k : Nat) (t : List UInt8) (m : Nat) (h1 : 1 ≤ m) :
    portcullisref01_Next.l1 (k + 5) (mkB t) (m : Int) = if m < t.length ∧ m < 3 then (if begL (t.take (m + 1)) = true then portcullisref01_Next.l1 (k + 4) (mkB t) ((m + 1 : Nat) : Int) else some (65533, (m : Int), false)) else some (65533, (m : Int), false) := by
  have hsz : ((mkB t).size : Int) = (t.length : Int) := by rw [mkB_size]
  rw [portcullisref01_Next.l1, hsz]
  by_cases c1 : m < t.length
  · rw [if_pos (by omega)]
    by_cases c2 : m < 3
    · rw [if_pos (by omega), w64n m (by omega), if_pos (by omega), if_pos (by omega), Int.toNat_natCast, ext_take, begins_is k _ (by rw [List.length_take]; omega), Option.bind_some, if_pos (show m < t.length ∧ m < 3 from ⟨c1, c2⟩)]
    · rw [if_neg (by omega), if_neg (by omega)]
  · rw [if_neg (by omega), if_neg (by omega)]
theorem nx1 (a : UInt8) : nxL [a] = if ub a < 128 then (ub a, 1, true) else (65533, 1, false) := rfl
theorem nx2 (a b : UInt8) : nxL [a, b] = if ub a < 128 then (ub a, 1, true) else if P2 (ub a) (ub b) then (v2 (ub a) (ub b), 2, true) else if P3 (ub a) (ub b) ∨ P4 (ub a) (ub b) then (65533, 2, false) else (65533, 1, false) := rfl
theorem nx3 (a b c : UInt8) : nxL [a, b, c] = if ub a < 128 then (ub a, 1, true) else if P2 (ub a) (ub b) then (v2 (ub a) (ub b), 2, true)
      else if P3 (ub a) (ub b) then (if C8 (ub c) then (v3 (ub a) (ub b) (ub c), 3, true) else (65533, 2, false))
      else if P4 (ub a) (ub b) then (if C8 (ub c) then (65533, 3, false) else (65533, 2, false)) else (65533, 1, false) := rfl
theorem nx4 (a b c d : UInt8) (r : List UInt8) : nxL (a :: b :: c :: d :: r) = if ub a < 128 then (ub a, 1, true) else if P2 (ub a) (ub b) then (v2 (ub a) (ub b), 2, true)
      else if P3 (ub a) (ub b) then (if C8 (ub c) then (v3 (ub a) (ub b) (ub c), 3, true) else (65533, 2, false))
      else if P4 (ub a) (ub b) then (if C8 (ub c) then (if C8 (ub d) then (v4 (ub a) (ub b) (ub c) (ub d), 4, true) else (65533, 3, false)) else (65533, 2, false)) else (65533, 1, false) := rfl
theorem refNext_is (k : Nat) (t : List UInt8) : portcullisref01_Next.f (k + 40) (mkB t) = some (nxL t) := by
  have hnil : (mkB t).toList = ([] : List UInt8) ↔ t = [] := by rw [Lib.toList_data, data_mkB]
  unfold portcullisref01_Next.f
  match t with
  | [] => rw [if_pos (hnil.2 rfl)]; rfl
  | [a] =>
    rw [if_neg (fun h => by cases hnil.1 h)]
    show portcullisref01_Next.l0 (k + 33 + 7) (mkB [a]) ((1 : Nat) : Int) = _
    rw [nl0 _ _ _ (by decide) (by decide) (by simp)]
    show (if Whole [a] then some (ub a, (1 : Int), true) else portcullisref01_Next.l0 (k + 36 + 2) (mkB [a]) ((2 : Nat) : Int)) = _
    rw [nl0_end _ _ _ (by simp)]
    show (if Whole [a] then some (ub a, (1 : Int), true) else portcullisref01_Next.l1 (k + 31 + 5) (mkB [a]) ((1 : Nat) : Int)) = some (if ub a < 128 then (ub a, 1, true) else (65533, 1, false))
    rw [nl1 _ _ _ (by decide), if_neg (show ¬ (1 < [a].length ∧ 1 < 3) by simp)]
    by_cases c : ub a < 128
    · rw [if_pos ((whole1 a).2 c), if_pos c]
    · rw [if_neg (fun h => c ((whole1 a).1 h)), if_neg c]; rfl
  | [a, b] =>
    rw [if_neg (fun h => by cases hnil.1 h)]
    show portcullisref01_Next.l0 (k + 33 + 7) (mkB [a, b]) ((1 : Nat) : Int) = _
    rw [nl0 _ _ _ (by decide) (by decide) (by simp)]
    show (if Whole [a] then some (ub a, (1 : Int), true) else portcullisref01_Next.l0 (k + 31 + 7) (mkB [a, b]) ((2 : Nat) : Int)) = _
    rw [nl0 _ _ _ (by decide) (by decide) (by simp)]
    show (if Whole [a] then some (ub a, (1 : Int), true) else if Whole [a, b] then some (v2 (ub a) (ub b), (2 : Int), true) else portcullisref01_Next.l0 (k + 34 + 2) (mkB [a, b]) ((3 : Nat) : Int)) = _
    rw [nl0_end _ _ _ (by simp)]
    show (if Whole [a] then some (ub a, (1 : Int), true) else if Whole [a, b] then some (v2 (ub a) (ub b), (2 : Int), true) else portcullisref01_Next.l1 (k + 29 + 5) (mkB [a, b]) ((1 : Nat) : Int)) = _
    rw [nl1 _ _ _ (by decide), if_pos (show 1 < [a, b].length ∧ 1 < 3 by simp)]
    show (if Whole [a] then some (ub a, (1 : Int), true) else if Whole [a, b] then some (v2 (ub a) (ub b), (2 : Int), true) else if begL [a, b] = true then portcullisref01_Next.l1 (k + 28 + 5) (mkB [a, b]) ((2 : Nat) : Int) else some (65533, 1, false)) = _
    rw [nl1 _ _ _ (by decide), if_neg (show ¬ (2 < [a, b].length ∧ 2 < 3) by simp)]
    rw [nx2]
    by_cases c : ub a < 128
    · rw [if_pos ((whole1 a).2 c), if_pos c]
    · rw [if_neg (fun h => c ((whole1 a).1 h)), if_neg c]
      by_cases c2 : P2 (ub a) (ub b)
      · rw [if_pos ((whole2 a b).2 c2), if_pos c2]
      · rw [if_neg (fun h => c2 ((whole2 a b).1 h)), if_neg c2]
        by_cases c3 : P3 (ub a) (ub b) ∨ P4 (ub a) (ub b)
        · rw [if_pos (show begL [a, b] = true from decide_eq_true (.inr c3)), if_pos c3]; rfl
        · rw [if_neg (show ¬ begL [a, b] = true from fun h => by rcases of_decide_eq_true h with h | h; exact c2 h; exact c3 h), if_neg c3]
  | [a, b, c] =>
    rw [if_neg (fun h => by cases hnil.1 h)]
    show portcullisref01_Next.l0 (k + 33 + 7) (mkB [a, b, c]) ((1 : Nat) : Int) = _
    rw [nl0 _ _ _ (by decide) (by decide) (by simp)]
    show (if Whole [a] then some (ub a, (1 : Int), true) else portcullisref01_Next.l0 (k + 31 + 7) (mkB [a, b, c]) ((2 : Nat) : Int)) = _
    rw [nl0 _ _ _ (by decide) (by decide) (by simp)]
    show (if Whole [a] then some (ub a, (1 : Int), true) else if Whole [a, b] then some (v2 (ub a) (ub b), (2 : Int), true) else portcullisref01_Next.l0 (k + 29 + 7) (mkB [a, b, c]) ((3 : Nat) : Int)) = _
    rw [nl0 _ _ _ (by decide) (by decide) (by simp)]
    show (if Whole [a] then some (ub a, (1 : Int), true) else if Whole [a, b] then some (v2 (ub a) (ub b), (2 : Int), true) else if Whole [a, b, c] then some (v3 (ub a) (ub b) (ub c), (3 : Int), true) else portcullisref01_Next.l0 (k + 32 + 2) (mkB [a, b, c]) ((4 : Nat) : Int)) = _
    rw [nl0_end _ _ _ (by simp)]
    show (if Whole [a] then some (ub a, (1 : Int), true) else if Whole [a, b] then some (v2 (ub a) (ub b), (2 : Int), true) else if Whole [a, b, c] then some (v3 (ub a) (ub b) (ub c), (3 : Int), true) else portcullisref01_Next.l1 (k + 27 + 5) (mkB [a, b, c]) ((1 : Nat) : Int)) = _
    rw [nl1 _ _ _ (by decide), if_pos (show 1 < [a, b, c].length ∧ 1 < 3 by simp)]
    show (if Whole [a] then some (ub a, (1 : Int), true) else if Whole [a, b] then some (v2 (ub a) (ub b), (2 : Int), true) else if Whole [a, b, c] then some (v3 (ub a) (ub b) (ub c), (3 : Int), true) else if begL [a, b] = true then portcullisref01_Next.l1 (k + 26 + 5) (mkB [a, b, c]) ((2 : Nat) : Int) else some (65533, 1, false)) = _
    rw [nl1 _ _ _ (by decide), if_pos (show 2 < [a, b, c].length ∧ 2 < 3 by simp)]
    show (if Whole [a] then some (ub a, (1 : Int), true) else if Whole [a, b] then some (v2 (ub a) (ub b), (2 : Int), true) else if Whole [a, b, c] then some (v3 (ub a) (ub b) (ub c), (3 : Int), true) else if begL [a, b] = true then (if begL [a, b, c] = true then portcullisref01_Next.l1 (k + 25 + 5) (mkB [a, b, c]) ((3 : Nat) : Int) else some (65533, 2, false)) else some (65533, 1, false)) = _
    rw [nl1 _ _ _ (by decide), if_neg (show ¬ (3 < [a, b, c].length ∧ 3 < 3) by simp)]
    rw [nx3]
    by_cases c0 : ub a < 128
    · rw [if_pos ((whole1 a).2 c0), if_pos c0]
    · rw [if_neg (fun h => c0 ((whole1 a).1 h)), if_neg c0]
      by_cases c2 : P2 (ub a) (ub b)
      · rw [if_pos ((whole2 a b).2 c2), if_pos c2]
      · rw [if_neg (fun h => c2 ((whole2 a b).1 h)), if_neg c2]
        by_cases c3 : P3 (ub a) (ub b)
        · rw [if_pos (show begL [a, b] = true from decide_eq_true (.inr (.inl c3))), if_pos c3]
          by_cases c8 : C8 (ub c)
          · rw [if_pos ((whole3 a b c).2 ⟨c3, c8⟩), if_pos c8]
          · rw [if_neg (fun h => c8 ((whole3 a b c).1 h).2), if_neg c8, if_neg (show ¬ begL [a, b, c] = true from fun h => c8 (of_decide_eq_true h).2)]
        · rw [if_neg (fun h => c3 ((whole3 a b c).1 h).1), if_neg c3]
          by_cases c4 : P4 (ub a) (ub b)
          · rw [if_pos (show begL [a, b] = true from decide_eq_true (.inr (.inr c4))), if_pos c4]
            by_cases c8 : C8 (ub c)
            · rw [if_pos (show begL [a, b, c] = true from decide_eq_true ⟨.inr c4, c8⟩), if_pos c8]; rfl
            · rw [if_neg c8, if_neg (show ¬ begL [a, b, c] = true from fun h => c8 (of_decide_eq_true h).2)]
          · rw [if_neg (show ¬ begL [a, b] = true from fun h => by rcases of_decide_eq_true h with h | h | h; exact c2 h; exact c3 h; exact c4 h), if_neg c4]
  | a :: b :: c :: d :: r =>
    rw [if_neg (fun h => by cases hnil.1 h)]
    show portcullisref01_Next.l0 (k + 33 + 7) (mkB (a :: b :: c :: d :: r)) ((1 : Nat) : Int) = _
    rw [nl0 _ _ _ (by decide) (by decide) (by simp)]
    show (if Whole [a] then some (ub a, (1 : Int), true) else portcullisref01_Next.l0 (k + 31 + 7) (mkB (a :: b :: c :: d :: r)) ((2 : Nat) : Int)) = _
    rw [nl0 _ _ _ (by decide) (by decide) (by simp)]
    show (if Whole [a] then some (ub a, (1 : Int), true) else if Whole [a, b] then some (v2 (ub a) (ub b), (2 : Int), true) else portcullisref01_Next.l0 (k + 29 + 7) (mkB (a :: b :: c :: d :: r)) ((3 : Nat) : Int)) = _
    rw [nl0 _ _ _ (by decide) (by decide) (by simp)]
    show (if Whole [a] then some (ub a, (1 : Int), true) else if Whole [a, b] then some (v2 (ub a) (ub b), (2 : Int), true) else if Whole [a, b, c] then some (v3 (ub a) (ub b) (ub c), (3 : Int), true) else portcullisref01_Next.l0 (k + 27 + 7) (mkB (a :: b :: c :: d :: r)) ((4 : Nat) : Int)) = _
    rw [nl0 _ _ _ (by decide) (by decide) (by simp)]
    show (if Whole [a] then some (ub a, (1 : Int), true) else if Whole [a, b] then some (v2 (ub a) (ub b), (2 : Int), true) else if Whole [a, b, c] then some (v3 (ub a) (ub b) (ub c), (3 : Int), true) else if Whole [a, b, c, d] then some (v4 (ub a) (ub b) (ub c) (ub d), (4 : Int), true) else portcullisref01_Next.l0 (k + 30 + 2) (mkB (a :: b :: c :: d :: r)) ((5 : Nat) : Int)) = _
    rw [nl0_end _ _ _ (by simp)]
    show (if Whole [a] then some (ub a, (1 : Int), true) else if Whole [a, b] then some (v2 (ub a) (ub b), (2 : Int), true) else if Whole [a, b, c] then some (v3 (ub a) (ub b) (ub c), (3 : Int), true) else if Whole [a, b, c, d] then some (v4 (ub a) (ub b) (ub c) (ub d), (4 : Int), true) else portcullisref01_Next.l1 (k + 25 + 5) (mkB (a :: b :: c :: d :: r)) ((1 : Nat) : Int)) = _
    rw [nl1 _ _ _ (by decide), if_pos (show 1 < (a :: b :: c :: d :: r).length ∧ 1 < 3 by simp)]
    show (if Whole [a] then some (ub a, (1 : Int), true) else if Whole [a, b] then some (v2 (ub a) (ub b), (2 : Int), true) else if Whole [a, b, c] then some (v3 (ub a) (ub b) (ub c), (3 : Int), true) else if Whole [a, b, c, d] then some (v4 (ub a) (ub b) (ub c) (ub d), (4 : Int), true) else if begL [a, b] = true then portcullisref01_Next.l1 (k + 24 + 5) (mkB (a :: b :: c :: d :: r)) ((2 : Nat) : Int) else some (65533, 1, false)) = _
    rw [nl1 _ _ _ (by decide), if_pos (show 2 < (a :: b :: c :: d :: r).length ∧ 2 < 3 by simp)]
    show (if Whole [a] then some (ub a, (1 : Int), true) else if Whole [a, b] then some (v2 (ub a) (ub b), (2 : Int), true) else if Whole [a, b, c] then some (v3 (ub a) (ub b) (ub c), (3 : Int), true) else if Whole [a, b, c, d] then some (v4 (ub a) (ub b) (ub c) (ub d), (4 : Int), true) else if begL [a, b] = true then (if begL [a, b, c] = true then portcullisref01_Next.l1 (k + 23 + 5) (mkB (a :: b :: c :: d :: r)) ((3 : Nat) : Int) else some (65533, 2, false)) else some (65533, 1, false)) = _
    rw [nl1 _ _ _ (by decide), if_neg (show ¬ (3 < (a :: b :: c :: d :: r).length ∧ 3 < 3) by simp)]
    rw [nx4]
    by_cases c0 : ub a < 128
    · rw [if_pos ((whole1 a).2 c0), if_pos c0]
    · rw [if_neg (fun h => c0 ((whole1 a).1 h)), if_neg c0]
      by_cases c2 : P2 (ub a) (ub b)
      · rw [if_pos ((whole2 a b).2 c2), if_pos c2]
      · rw [if_neg (fun h => c2 ((whole2 a b).1 h)), if_neg c2]
        by_cases c3 : P3 (ub a) (ub b)
        · have c4 : ¬ P4 (ub a) (ub b) := by unfold P3 at c3; unfold P4; omega
          rw [if_pos (show begL [a, b] = true from decide_eq_true (.inr (.inl c3))), if_pos c3]
          by_cases c8 : C8 (ub c)
          · rw [if_pos ((whole3 a b c).2 ⟨c3, c8⟩), if_pos c8]
          · rw [if_neg (fun h => c8 ((whole3 a b c).1 h).2), if_neg c8, if_neg (fun h => c4 ((whole4 a b c d).1 h).1), if_neg (show ¬ begL [a, b, c] = true from fun h => c8 (of_decide_eq_true h).2)]
        · rw [if_neg (fun h => c3 ((whole3 a b c).1 h).1), if_neg c3]
          by_cases c4 : P4 (ub a) (ub b)
          · rw [if_pos (show begL [a, b] = true from decide_eq_true (.inr (.inr c4))), if_pos c4]
            by_cases c8 : C8 (ub c)
            · rw [if_pos (show begL [a, b, c] = true from decide_eq_true ⟨.inr c4, c8⟩), if_pos c8]
              by_cases d8 : C8 (ub d)
              · rw [if_pos ((whole4 a b c d).2 ⟨c4, c8, d8⟩), if_pos d8]
              · rw [if_neg (fun h => d8 ((whole4 a b c d).1 h).2.2), if_neg d8]; rfl
            · rw [if_neg c8, if_neg (fun h => c8 ((whole4 a b c d).1 h).2.1), if_neg (show ¬ begL [a, b, c] = true from fun h => c8 (of_decide_eq_true h).2)]
          · rw [if_neg (fun h => c4 ((whole4 a b c d).1 h).1), if_neg (show ¬ begL [a, b] = true from fun h => by rcases of_decide_eq_true h with h | h | h; exact c2 h; exact c3 h; exact c4 h), if_neg c4]

theorem room_is (k : Nat) (a : Int) (h : 0 ≤ a) (h2 : a ≤ 255) : utf_room.f (k + 5) a = some (if a < 128 then (0, 0, 1) else if 194 ≤ a ∧ a ≤ 223 then (128, 191, 2) else if 224 ≤ a ∧ a ≤ 239 then ((if a = 224 then 160 else 128), (if a = 237 then 159 else 191), 3)
    else if 240 ≤ a ∧ a ≤ 244 then ((if a = 240 then 144 else 128), (if a = 244 then 143 else 191), 4) else (0, 0, 0)) := by
  unfold utf_room.f
  simp only [utf_room.j0, utf_room.j1, utf_room.j2, decide_eq_true_eq, Bool.false_eq_true, if_false]
  rcases (by omega : a < 128 ∨ (128 ≤ a ∧ a < 194) ∨ (194 ≤ a ∧ a ≤ 223) ∨ a = 224 ∨ (225 ≤ a ∧ a ≤ 236) ∨ a = 237 ∨ (238 ≤ a ∧ a ≤ 239) ∨ a = 240 ∨ (241 ≤ a ∧ a ≤ 243) ∨ a = 244 ∨ 244 < a) with r | r | r | r | r | r | r | r | r | r | r
  all_goals (repeat (first | rw [if_pos (by omega)] | rw [if_neg (by omega)]))
theorem un (k : Nat) (t : List UInt8) (lo hi all : Int) (i : Nat) (h1 : 1 ≤ i) (hl : i ≤ t.length) (hs : t.length ≤ 1000000000) :
    utf_Next.l0 (k + 1) (mkB t) lo hi all (i : Int) = if (i : Int) < all ∧ i < t.length ∧ lo ≤ bt (mkB t) (i : Int) ∧ bt (mkB t) (i : Int) ≤ hi then utf_Next.l0 k (mkB t) 128 191 all ((i + 1 : Nat) : Int)
      else if (i : Int) = all then some (((Lib.decodeGo (mkB (t.take i))).1 : Int), (i : Int), true) else some (65533, (i : Int), false) := by
  have hsz : ((mkB t).size : Int) = (t.length : Int) := by rw [mkB_size]
  rw [utf_Next.l0, hsz]
  have e : ∀ x : Int, x = (i : Int) → ((utf8_DecodeRuneInString.f ((mkB t).extract 0 (i : Int).toNat)).bind fun bt506 => (some (bt506.1, x, true))) = some (((Lib.decodeGo (mkB (t.take i))).1 : Int), (i : Int), true) := by
    rintro x rfl
    rw [Int.toNat_natCast, ext_take]
    rfl
  rw [e _ rfl, w64n i (by omega)]
  generalize bt (mkB t) (i : Int) = b
  by_cases c1 : (i : Int) < all
  · have hne : ¬ (i : Int) = all := by omega
    rw [if_pos c1]
    by_cases c2 : i < t.length
    · rw [if_pos (show (i : Int) < (t.length : Int) by omega), if_pos (show (0 : Int) ≤ (i : Int) by omega)]
      by_cases c3 : b ≥ lo
      · rw [if_pos c3]
        by_cases c4 : b ≤ hi
        · rw [if_pos c4, if_pos (show (i : Int) < all ∧ i < t.length ∧ lo ≤ b ∧ b ≤ hi from ⟨c1, c2, c3, c4⟩)]
        · rw [if_neg c4, if_neg (show ¬ ((i : Int) < all ∧ i < t.length ∧ lo ≤ b ∧ b ≤ hi) from fun h => c4 h.2.2.2), if_neg hne, if_neg hne]
      · rw [if_neg c3, if_neg (show ¬ ((i : Int) < all ∧ i < t.length ∧ lo ≤ b ∧ b ≤ hi) from fun h => c3 h.2.2.1), if_neg hne, if_neg hne]
    · rw [if_neg (show ¬ (i : Int) < (t.length : Int) by omega), if_neg (show ¬ ((i : Int) < all ∧ i < t.length ∧ lo ≤ b ∧ b ≤ hi) from fun h => c2 h.2.1), if_neg hne, if_neg hne]
  · rw [if_neg c1, if_neg (show ¬ ((i : Int) < all ∧ i < t.length ∧ lo ≤ b ∧ b ≤ hi) from fun h => c1 h.1)]
    by_cases c5 : (i : Int) = all
    · rw [if_pos c5, if_pos (show (0 : Int) ≤ (i : Int) by omega), if_pos (show (i : Int) ≤ (t.length : Int) by omega), if_pos c5]
    · rw [if_neg c5, if_neg c5]
theorem g0 (a : UInt8) (r : List UInt8) : (mkB (a :: r)).get! 0 = a := by unfold mkB ByteArray.get!; rfl
theorem g1 (a b : UInt8) (r : List UInt8) : (mkB (a :: b :: r)).get! 1 = b := by unfold mkB ByteArray.get!; rfl
theorem g2 (a b c : UInt8) (r : List UInt8) : (mkB (a :: b :: c :: r)).get! 2 = c := by unfold mkB ByteArray.get!; rfl
theorem g3 (a b c d : UInt8) (r : List UInt8) : (mkB (a :: b :: c :: d :: r)).get! 3 = d := by unfold mkB ByteArray.get!; rfl
theorem dec1 (a : UInt8) (h : ub a < 128) : ((Lib.decodeGo (mkB [a])).1 : Int) = ub a := by
  unfold Lib.decodeGo
  rw [if_neg (by rw [mkB_size]; simp), Lib.decode_at, mkB_size, Nat.zero_add, Nat.zero_add, Nat.zero_add, g0]
  unfold Lib.decodeN
  unfold ub at h
  rw [if_pos (by omega)]
theorem dec2 (a b : UInt8) (h : P2 (ub a) (ub b)) : ((Lib.decodeGo (mkB [a, b])).1 : Int) = v2 (ub a) (ub b) := by
  unfold Lib.decodeGo
  rw [if_neg (by rw [mkB_size]; simp), Lib.decode_at, mkB_size, Nat.zero_add, Nat.zero_add, Nat.zero_add, g0, g1]
  unfold Lib.decodeN
  unfold P2 ub at h
  unfold v2 ub
  show ((if _ then _ else _ : Nat × Nat).1 : Int) = _
  rw [if_neg (by omega), if_pos (by simp only [List.length_cons, List.length_nil]; omega), if_pos (by omega)]
  show (((a.toNat % 32 * 64 + b.toNat % 64 : Nat)) : Int) = _
  omega
theorem dec3 (a b c : UInt8) (h : P3 (ub a) (ub b)) (h8 : C8 (ub c)) : ((Lib.decodeGo (mkB [a, b, c])).1 : Int) = v3 (ub a) (ub b) (ub c) := by
  unfold Lib.decodeGo
  rw [if_neg (by rw [mkB_size]; simp), Lib.decode_at, mkB_size, Nat.zero_add, Nat.zero_add, Nat.zero_add, g0, g1, g2]
  unfold Lib.decodeN
  unfold P3 ub at h
  unfold C8 ub at h8
  unfold v3 ub
  rw [if_neg (by omega), if_neg (by omega), if_pos (by simp only [List.length_cons, List.length_nil]; omega), if_pos (by omega)]
  show (((a.toNat % 16 * 4096 + b.toNat % 64 * 64 + c.toNat % 64 : Nat)) : Int) = _
  omega
theorem dec4 (a b c d : UInt8) (h : P4 (ub a) (ub b)) (h8 : C8 (ub c)) (d8 : C8 (ub d)) : ((Lib.decodeGo (mkB [a, b, c, d])).1 : Int) = v4 (ub a) (ub b) (ub c) (ub d) := by
  unfold Lib.decodeGo
  rw [if_neg (by rw [mkB_size]; simp), Lib.decode_at, mkB_size, Nat.zero_add, Nat.zero_add, Nat.zero_add, g0, g1, g2, g3]
  unfold Lib.decodeN
  unfold P4 ub at h
  unfold C8 ub at h8 d8
  unfold v4 ub
  rw [if_neg (by omega), if_neg (by omega), if_neg (by omega), if_pos (by simp only [List.length_cons, List.length_nil]; omega), if_pos (by omega)]
  show (((a.toNat % 8 * 262144 + b.toNat % 64 * 4096 + c.toNat % 64 * 64 + d.toNat % 64 : Nat)) : Int) = _
  omega
theorem u1 (t : List UInt8) (lo hi all : Int) (h : 1 ≤ t.length) (hs : t.length ≤ 1000000000) : utf_Next.l0 20 (mkB t) lo hi all 1 = if (1 : Int) < all ∧ 1 < t.length ∧ lo ≤ bt (mkB t) 1 ∧ bt (mkB t) 1 ≤ hi then utf_Next.l0 19 (mkB t) 128 191 all 2
      else if (1 : Int) = all then some (((Lib.decodeGo (mkB (t.take 1))).1 : Int), 1, true) else some (65533, 1, false) := un 19 t lo hi all 1 (by omega) h hs
theorem u2 (t : List UInt8) (lo hi all : Int) (h : 2 ≤ t.length) (hs : t.length ≤ 1000000000) : utf_Next.l0 19 (mkB t) lo hi all 2 = if (2 : Int) < all ∧ 2 < t.length ∧ lo ≤ bt (mkB t) 2 ∧ bt (mkB t) 2 ≤ hi then utf_Next.l0 18 (mkB t) 128 191 all 3
      else if (2 : Int) = all then some (((Lib.decodeGo (mkB (t.take 2))).1 : Int), 2, true) else some (65533, 2, false) := un 18 t lo hi all 2 (by omega) h hs
theorem u3 (t : List UInt8) (lo hi all : Int) (h : 3 ≤ t.length) (hs : t.length ≤ 1000000000) : utf_Next.l0 18 (mkB t) lo hi all 3 = if (3 : Int) < all ∧ 3 < t.length ∧ lo ≤ bt (mkB t) 3 ∧ bt (mkB t) 3 ≤ hi then utf_Next.l0 17 (mkB t) 128 191 all 4
      else if (3 : Int) = all then some (((Lib.decodeGo (mkB (t.take 3))).1 : Int), 3, true) else some (65533, 3, false) := un 17 t lo hi all 3 (by omega) h hs
theorem u4 (t : List UInt8) (lo hi : Int) (h : 4 ≤ t.length) (hs : t.length ≤ 1000000000) : utf_Next.l0 17 (mkB t) lo hi 4 4 = some (((Lib.decodeGo (mkB (t.take 4))).1 : Int), 4, true) := by
  have := un 16 t lo hi 4 4 (by omega) h hs
  rw [if_neg (fun h => by have := h.1; omega)] at this
  exact this
theorem u_bad {a : UInt8} {r : List UInt8} (hs : (a :: r).length ≤ 1000000000) (lo hi all : Int) (h1 : 1 < all) (e : nxL (a :: r) = (65533, 1, false)) (h : ¬ (1 < (a :: r).length ∧ lo ≤ bt (mkB (a :: r)) 1 ∧ bt (mkB (a :: r)) 1 ≤ hi)) :
    utf_Next.l0 20 (mkB (a :: r)) lo hi all 1 = some (nxL (a :: r)) := by
  rw [u1 _ _ _ _ (by simp) hs, if_neg (fun h2 => h h2.2), if_neg (by omega), e]
theorem utfNext_is (t : List UInt8) (hs : t.length ≤ 1000000000) : utf_Next.f 20 (mkB t) = some (nxL t) := by
  have hnil : (mkB t).toList = ([] : List UInt8) ↔ t = [] := by rw [Lib.toList_data, data_mkB]
  have HS := Aside0.mk hs
  clear hs
  unfold utf_Next.f
  cases t with
  | nil => rw [if_pos (hnil.2 rfl)]; rfl
  | cons a r =>
    have hsz : ((mkB (a :: r)).size : Int) = (r.length : Int) + 1 := by rw [mkB_size]; rfl
    have ha := ub_rng a
    have hl1 : 1 ≤ (a :: r).length := by simp
    rw [if_neg (fun h => by cases hnil.1 h), hsz, if_pos (by omega), bt0, room_is 15 _ ha.1 ha.2, Option.bind_some]
    by_cases c0 : ub a < 128
    · have e : nxL (a :: r) = (ub a, 1, true) := by
        match r with
        | [] => rw [nx1, if_pos c0]
        | [b] => rw [nx2, if_pos c0]
        | [b, c] => rw [nx3, if_pos c0]
        | b :: c :: d :: r => rw [nx4, if_pos c0]
      rw [if_pos c0, e]
      dsimp only
      rw [u1 _ _ _ _ hl1 HS.out, if_neg (fun h => by have := h.1; omega), if_pos rfl]
      show some (((Lib.decodeGo (mkB [a])).1 : Int), (1 : Int), true) = _
      rw [dec1 a c0]
    · rw [if_neg c0]
      by_cases r2 : 194 ≤ ub a ∧ ub a ≤ 223
      · rw [if_pos r2]
        dsimp only
        have n3 : ∀ b, ¬ P3 (ub a) b := fun b h => by unfold P3 at h; omega
        have n4 : ∀ b, ¬ P4 (ub a) b := fun b h => by unfold P4 at h; omega
        match r with
        | [] => exact u_bad HS.out _ _ _ (by omega) (by rw [nx1, if_neg c0]) (fun h => by simp at h)
        | b :: r =>
          by_cases c2 : P2 (ub a) (ub b)
          · have e : nxL (a :: b :: r) = (v2 (ub a) (ub b), 2, true) := by
              match r with
              | [] => rw [nx2, if_neg c0, if_pos c2]
              | [c] => rw [nx3, if_neg c0, if_pos c2]
              | c :: d :: r => rw [nx4, if_neg c0, if_pos c2]
            rw [e, u1 _ _ _ _ hl1 HS.out, if_pos ⟨by omega, by simp, by rw [bt1]; exact c2.2.2.1, by rw [bt1]; exact c2.2.2.2⟩, u2 _ _ _ _ (by simp) HS.out, if_neg (fun h => by have := h.1; omega), if_pos rfl]
            show some (((Lib.decodeGo (mkB [a, b])).1 : Int), (2 : Int), true) = _
            rw [dec2 a b c2]
          · refine u_bad HS.out _ _ _ (by omega) ?_ (fun h => c2 ⟨r2.1, r2.2, by have := h.2.1; rw [bt1] at this; exact this, by have := h.2.2; rw [bt1] at this; exact this⟩)
            match r with
            | [] => rw [nx2, if_neg c0, if_neg c2, if_neg (fun h => h.elim (n3 _) (n4 _))]
            | [c] => rw [nx3, if_neg c0, if_neg c2, if_neg (n3 _), if_neg (n4 _)]
            | c :: d :: r => rw [nx4, if_neg c0, if_neg c2, if_neg (n3 _), if_neg (n4 _)]
      · rw [if_neg r2]
        have n2 : ∀ b, ¬ P2 (ub a) b := fun b h => r2 ⟨h.1, h.2.1⟩
        by_cases r3 : 224 ≤ ub a ∧ ub a ≤ 239
        · rw [if_pos r3]
          dsimp only
          have n4 : ∀ b, ¬ P4 (ub a) b := fun b h => by unfold P4 at h; omega
          have hp : ∀ b : Int, P3 (ub a) b ↔ (if ub a = 224 then (160 : Int) else 128) ≤ b ∧ b ≤ (if ub a = 237 then (159 : Int) else 191) := fun b => by
            unfold P3
            split <;> split <;> omega
          match r with
          | [] => exact u_bad HS.out _ _ _ (by omega) (by rw [nx1, if_neg c0]) (fun h => by simp at h)
          | b :: r =>
            by_cases c3 : P3 (ub a) (ub b)
            · have hb := (hp _).1 c3
              rw [u1 _ _ _ _ hl1 HS.out, if_pos ⟨by omega, by simp, by rw [bt1]; exact hb.1, by rw [bt1]; exact hb.2⟩]
              match r with
              | [] =>
                rw [u2 _ _ _ _ (by simp) HS.out, if_neg (fun h => by have := h.2.1; simp at this), if_neg (by omega), nx2, if_neg c0, if_neg (n2 _), if_pos (.inl c3)]
              | c :: r =>
                by_cases c8 : C8 (ub c)
                · have e : nxL (a :: b :: c :: r) = (v3 (ub a) (ub b) (ub c), 3, true) := by
                    match r with
                    | [] => rw [nx3, if_neg c0, if_neg (n2 _), if_pos c3, if_pos c8]
                    | d :: r => rw [nx4, if_neg c0, if_neg (n2 _), if_pos c3, if_pos c8]
                  rw [e, u2 _ _ _ _ (by simp) HS.out, if_pos ⟨by omega, by simp, by rw [bt2]; exact c8.1, by rw [bt2]; exact c8.2⟩, u3 _ _ _ _ (by simp) HS.out, if_neg (fun h => by have := h.1; omega), if_pos rfl]
                  show some (((Lib.decodeGo (mkB [a, b, c])).1 : Int), (3 : Int), true) = _
                  rw [dec3 a b c c3 c8]
                · have e : nxL (a :: b :: c :: r) = (65533, 2, false) := by
                    match r with
                    | [] => rw [nx3, if_neg c0, if_neg (n2 _), if_pos c3, if_neg c8]
                    | d :: r => rw [nx4, if_neg c0, if_neg (n2 _), if_pos c3, if_neg c8]
                  rw [e, u2 _ _ _ _ (by simp) HS.out, if_neg (fun h => c8 ⟨by have := h.2.2.1; rw [bt2] at this; exact this, by have := h.2.2.2; rw [bt2] at this; exact this⟩), if_neg (by omega)]
            · refine u_bad HS.out _ _ _ (by omega) ?_ (fun h => c3 ((hp _).2 ⟨by have := h.2.1; rw [bt1] at this; exact this, by have := h.2.2; rw [bt1] at this; exact this⟩))
              match r with
              | [] => rw [nx2, if_neg c0, if_neg (n2 _), if_neg (fun h => h.elim c3 (n4 _))]
              | [c] => rw [nx3, if_neg c0, if_neg (n2 _), if_neg c3, if_neg (n4 _)]
              | c :: d :: r => rw [nx4, if_neg c0, if_neg (n2 _), if_neg c3, if_neg (n4 _)]
        · rw [if_neg r3]
          have n3 : ∀ b, ¬ P3 (ub a) b := fun b h => r3 ⟨h.1, h.2.1⟩
          by_cases r4 : 240 ≤ ub a ∧ ub a ≤ 244
          · rw [if_pos r4]
            dsimp only
            have hp : ∀ b : Int, P4 (ub a) b ↔ (if ub a = 240 then (144 : Int) else 128) ≤ b ∧ b ≤ (if ub a = 244 then (143 : Int) else 191) := fun b => by
              unfold P4
              split <;> split <;> omega
            match r with
            | [] => exact u_bad HS.out _ _ _ (by omega) (by rw [nx1, if_neg c0]) (fun h => by simp at h)
            | b :: r =>
              by_cases c4 : P4 (ub a) (ub b)
              · have hb := (hp _).1 c4
                rw [u1 _ _ _ _ hl1 HS.out, if_pos ⟨by omega, by simp, by rw [bt1]; exact hb.1, by rw [bt1]; exact hb.2⟩]
                match r with
                | [] =>
                  rw [u2 _ _ _ _ (by simp) HS.out, if_neg (fun h => by have := h.2.1; simp at this), if_neg (by omega), nx2, if_neg c0, if_neg (n2 _), if_pos (.inr c4)]
                | c :: r =>
                  by_cases c8 : C8 (ub c)
                  · rw [u2 _ _ _ _ (by simp) HS.out, if_pos ⟨by omega, by simp, by rw [bt2]; exact c8.1, by rw [bt2]; exact c8.2⟩]
                    match r with
                    | [] => rw [u3 _ _ _ _ (by simp) HS.out, if_neg (fun h => by have := h.2.1; simp at this), if_neg (by omega), nx3, if_neg c0, if_neg (n2 _), if_neg (n3 _), if_pos c4, if_pos c8]
                    | d :: r =>
                      by_cases d8 : C8 (ub d)
                      · rw [u3 _ _ _ _ (by simp) HS.out, if_pos ⟨by omega, by simp, by rw [bt3]; exact d8.1, by rw [bt3]; exact d8.2⟩, u4 _ _ _ (by simp) HS.out, nx4, if_neg c0, if_neg (n2 _), if_neg (n3 _), if_pos c4, if_pos c8, if_pos d8]
                        show some (((Lib.decodeGo (mkB [a, b, c, d])).1 : Int), (4 : Int), true) = _
                        rw [dec4 a b c d c4 c8 d8]
                      · rw [u3 _ _ _ _ (by simp) HS.out, if_neg (fun h => d8 ⟨by have := h.2.2.1; rw [bt3] at this; exact this, by have := h.2.2.2; rw [bt3] at this; exact this⟩), if_neg (by omega), nx4, if_neg c0, if_neg (n2 _), if_neg (n3 _), if_pos c4, if_pos c8, if_neg d8]
                  · have e : nxL (a :: b :: c :: r) = (65533, 2, false) := by
                      match r with
                      | [] => rw [nx3, if_neg c0, if_neg (n2 _), if_neg (n3 _), if_pos c4, if_neg c8]
                      | d :: r => rw [nx4, if_neg c0, if_neg (n2 _), if_neg (n3 _), if_pos c4, if_neg c8]
                    rw [e, u2 _ _ _ _ (by simp) HS.out, if_neg (fun h => c8 ⟨by have := h.2.2.1; rw [bt2] at this; exact this, by have := h.2.2.2; rw [bt2] at this; exact this⟩), if_neg (by omega)]
              · refine u_bad HS.out _ _ _ (by omega) ?_ (fun h => c4 ((hp _).2 ⟨by have := h.2.1; rw [bt1] at this; exact this, by have := h.2.2; rw [bt1] at this; exact this⟩))
                match r with
                | [] => rw [nx2, if_neg c0, if_neg (n2 _), if_neg (fun h => h.elim (n3 _) c4)]
                | [c] => rw [nx3, if_neg c0, if_neg (n2 _), if_neg (n3 _), if_neg c4]
                | c :: d :: r => rw [nx4, if_neg c0, if_neg (n2 _), if_neg (n3 _), if_neg c4]
          · rw [if_neg r4]
            dsimp only
            have n4 : ∀ b, ¬ P4 (ub a) b := fun b h => r4 ⟨h.1, h.2.1⟩
            have e : nxL (a :: r) = (65533, 1, false) := by
              match r with
              | [] => rw [nx1, if_neg c0]
              | [b] => rw [nx2, if_neg c0, if_neg (n2 _), if_neg (fun h => h.elim (n3 _) (n4 _))]
              | [b, c] => rw [nx3, if_neg c0, if_neg (n2 _), if_neg (n3 _), if_neg (n4 _)]
              | b :: c :: d :: r => rw [nx4, if_neg c0, if_neg (n2 _), if_neg (n3 _), if_neg (n4 _)]
            rw [e, u1 _ _ _ _ hl1 HS.out, if_neg (fun h => by have := h.1; omega), if_neg (by omega)]

theorem nx_len {t : List UInt8} (h : t ≠ []) : 1 ≤ (nxL t).2.1 ∧ (nxL t).2.1 ≤ (t.length : Int) := by
  match t, h with
  | [a], _ => rw [nx1]; split <;> simp
  | [a, b], _ => rw [nx2]; repeat' split
                 all_goals simp
  | [a, b, c], _ => rw [nx3]; repeat' split
                    all_goals simp
  | a :: b :: c :: d :: r, _ => rw [nx4]; repeat' split
                                all_goals simp
                                all_goals omega
def R32 (x : Int) : Prop := -2147483648 ≤ x ∧ x ≤ 2147483647
theorem nx_rng (t : List UInt8) : R32 (nxL t).1 := by
  have lem : ∀ a b c d : UInt8, R32 (ub a) ∧ R32 (v2 (ub a) (ub b)) ∧ R32 (v3 (ub a) (ub b) (ub c)) ∧ R32 (v4 (ub a) (ub b) (ub c) (ub d)) ∧ R32 65533 := fun a b c d => by
    have ha := ub_rng a
    have hb := ub_rng b
    have hc := ub_rng c
    have hd := ub_rng d
    unfold R32 v2 v3 v4
    omega
  match t with
  | [] => show R32 0; unfold R32; omega
  | [a] => have := lem a a a a
           rw [nx1]; split
           · exact this.1
           · exact this.2.2.2.2
  | [a, b] => have := lem a b b b
              rw [nx2]; repeat' split
              all_goals first | exact this.1 | exact this.2.1 | exact this.2.2.2.2
  | [a, b, c] => have := lem a b c c
                 rw [nx3]; repeat' split
                 all_goals first | exact this.1 | exact this.2.1 | exact this.2.2.1 | exact this.2.2.2.2
  | a :: b :: c :: d :: r => have := lem a b c d
                             rw [nx4]; repeat' split
                             all_goals first | exact this.1 | exact this.2.1 | exact this.2.2.1 | exact this.2.2.2.1 | exact this.2.2.2.2
def decL : Nat → List UInt8 → List Int
  | 0, _ => []
  | f + 1, t => if t = [] then [] else (nxL t).1 :: decL f (t.drop (nxL t).2.1.toNat)
theorem decL_len : ∀ (f : Nat) (t : List UInt8), (decL f t).length ≤ f
  | 0, _ => Nat.zero_le _
  | f + 1, t => by
    rw [decL]
    split
    · simp
    · have := decL_len f (t.drop (nxL t).2.1.toNat)
      simp only [List.length_cons]
      omega
theorem decL_rng : ∀ (f : Nat) (t : List UInt8), ∀ x ∈ decL f t, R32 x
  | 0, _, x, hx => by simp [decL] at hx
  | f + 1, t, x, hx => by
    rw [decL] at hx
    split at hx
    · simp at hx
    · rcases List.mem_cons.1 hx with rfl | hx
      · exact nx_rng t
      · exact decL_rng f _ x hx
theorem allO_dec : ∀ (f : Nat) (t : List UInt8), t.length ≤ f → t.length ≤ 1000000000 → ∃ xs, allO f (mkB t) = some xs ∧ xs.map Prod.fst = decL f t
  | 0, t, h, hs => by
    have e : t = [] := List.length_eq_zero_iff.1 (by omega)
    subst e
    exact ⟨[], allO_nil 0 rfl, rfl⟩
  | f + 1, t, h, hs => by
    by_cases e : t = []
    · subst e
      exact ⟨[], allO_nil _ rfl, by rw [decL, if_pos rfl]; rfl⟩
    · have hl := nx_len e
      have hne := List.length_pos_iff.2 e
      obtain ⟨xs, h1, h2⟩ := allO_dec f (t.drop (nxL t).2.1.toNat) (by rw [List.length_drop]; omega) (by rw [List.length_drop]; omega)
      refine ⟨((nxL t).1, (nxL t).2.2) :: xs, ?_, ?_⟩
      · rw [allO, if_neg (by rw [mkB_size]; omega), utfNext_is t hs, Option.bind_some, if_pos (by rw [mkB_size]; omega), ext_drop, h1]
        rfl
      · rw [decL, if_neg e, ← h2]
        rfl
theorem utfDecode_is (t : List UInt8) (hs : t.length ≤ 1000000000) : utf_Decode.f (mkB t) = some (decL t.length t) := by
  obtain ⟨xs, h1, h2⟩ := allO_dec t.length t (Nat.le_refl _) hs
  unfold utf_Decode.f
  rw [if_pos (by rw [mkB_size]; exact hs), mkB_size, h1]
  show some (xs.map Prod.fst) = _
  rw [h2]
theorem refDecode_l0 : ∀ (f : Nat) (t : List UInt8) (acc : List Int), t.length ≤ f → acc.length + f ≤ 1000000000 → Ev (fun k => portcullisref01_Decode.l0 k (mkB t) acc) (acc ++ decL f t)
  | f, [], acc, h, ha => by
    have e : decL f [] = [] := by cases f <;> rfl
    rw [e, List.append_nil]
    exact Ev.one fun k => by rw [portcullisref01_Decode.l0, if_pos (by rw [Lib.toList_data, data_mkB])]
  | 0, a :: r, acc, h, ha => by simp at h
  | f + 1, a :: r, acc, h, ha => by
    have hne : a :: r ≠ [] := by simp
    have hl := nx_len hne
    have ih := refDecode_l0 f ((a :: r).drop (nxL (a :: r)).2.1.toNat) (acc ++ [(nxL (a :: r)).1]) (by rw [List.length_drop]; omega) (by simp; omega)
    have e : acc ++ decL (f + 1) (a :: r) = (acc ++ [(nxL (a :: r)).1]) ++ decL f ((a :: r).drop (nxL (a :: r)).2.1.toNat) := by rw [decL, if_neg hne]; simp
    rw [e]
    refine Ev.stepG 40 (fun k hk => ?_) ih
    obtain ⟨k, rfl⟩ : ∃ k', k = k' + 40 := ⟨k - 40, by omega⟩
    rw [portcullisref01_Decode.l0, if_neg (by rw [Lib.toList_data, data_mkB]; exact hne), refNext_is, Option.bind_some, if_pos (by omega), if_pos (by omega), if_pos (by rw [mkB_size]; omega), ext_drop]
theorem refDecode_is (t : List UInt8) (hs : t.length ≤ 1000000000) : Ev (fun k => portcullisref01_Decode.f k (mkB t)) (decL t.length t) := by
  have := refDecode_l0 t.length t [] (Nat.le_refl _) (by simp; omega)
  rw [List.nil_append] at this
  exact Ev.of_eq (fun k => by unfold portcullisref01_Decode.f; rfl) this

theorem strOfNums_append (x y : List Int) : strOfNums (x ++ y) = strOfNums x ++ strOfNums y := by
  apply ByteArray.ext
  rw [ByteArray.data_append]
  unfold strOfNums
  simp
theorem strOfNums_size (x : List Int) : (strOfNums x).size = x.length := by
  unfold strOfNums
  simp [ByteArray.size]
theorem valid_is (x : Int) : Lib.validRune x = decide (Scal x) := by
  unfold Lib.validRune
  rw [decide_eq_decide]
  unfold Scal
  omega
theorem refEnc_l0 (l : List Int) (hl : l.length ≤ 1000000) : ∀ (rest pre : List Int) (acc : ByteArray), l = pre ++ rest → acc.size ≤ 4 * pre.length →
    Ev (fun k => portcullisref01_Encode.l0 k l acc (pre.length : Int)) (if rest.all Lib.validRune = true then (acc ++ strOfNums (runesZ rest), true) else ((⟨#[]⟩ : ByteArray), false))
  | [], pre, acc, h, ha => by
    have e : acc ++ strOfNums (runesZ []) = acc := by
      apply ByteArray.ext
      rw [ByteArray.data_append]
      show acc.data ++ #[] = acc.data
      simp
    rw [if_pos (by rfl), e]
    exact Ev.one fun k => by rw [portcullisref01_Encode.l0, if_neg (by rw [h]; simp)]
  | x :: rest, pre, acc, h, ha => by
    have hr : rd l (pre.length : Int) = x := by rw [h]; exact rd_app pre _ x
    have hlen : l.length = pre.length + (rest.length + 1) := by rw [h]; simp
    by_cases c : Scal x
    · have hv : Lib.validRune x = true := by rw [valid_is, decide_eq_true c]
      have hz := encodeZ_len x
      have hsz := strOfNums_size (Lib.encodeRuneZ x)
      have ih := refEnc_l0 l hl rest (pre ++ [x]) (acc ++ strOfNums (Lib.encodeRuneZ x)) (by rw [h]; simp) (by rw [ByteArray.size_append, hsz]; simp; omega)
      have e : (if (x :: rest).all Lib.validRune = true then (acc ++ strOfNums (runesZ (x :: rest)), true) else ((⟨#[]⟩ : ByteArray), false)) = (if rest.all Lib.validRune = true then (acc ++ strOfNums (Lib.encodeRuneZ x) ++ strOfNums (runesZ rest), true) else ((⟨#[]⟩ : ByteArray), false)) := by
        have e1 : runesZ (x :: rest) = Lib.encodeRuneZ x ++ runesZ rest := rfl
        rw [List.all_cons, hv, Bool.true_and, e1, strOfNums_append, ByteArray.append_assoc]
      rw [e]
      refine Ev.step (fun k => ?_) ih
      rw [portcullisref01_Encode.l0, if_pos (by omega), if_pos (by omega), hr, scalar_is, Option.bind_some, if_pos (decide_eq_true c), bytes_is x c, Option.bind_some, if_pos (by omega), w64n _ (by omega)]
      simp only [List.length_append, List.length_cons, List.length_nil]
    · have hv : Lib.validRune x = false := by rw [valid_is, decide_eq_false c]
      rw [if_neg (by rw [List.all_cons, hv]; simp)]
      exact Ev.one fun k => by rw [portcullisref01_Encode.l0, if_pos (by omega), if_pos (by omega), hr, scalar_is, Option.bind_some, if_neg (by rw [decide_eq_false c]; decide)]
theorem refEnc_is (l : List Int) (hl : l.length ≤ 1000000) : Ev (fun k => (portcullisref01_Encode.f k l).bind fun b => some b.1) (encP l).1 := by
  obtain ⟨K, hK⟩ := refEnc_l0 l hl l [] ⟨#[]⟩ rfl (by simp [ByteArray.size])
  refine ⟨K, fun k hk => ?_⟩
  have e := hK k hk
  have e2 : portcullisref01_Encode.f k l = _ := e
  show (portcullisref01_Encode.f k l).bind (fun b => some b.1) = _
  rw [e2, Option.bind_some]
  unfold encP
  have e0 : ∀ b : ByteArray, (⟨#[]⟩ : ByteArray) ++ b = b := fun b => by
    apply ByteArray.ext
    rw [ByteArray.data_append]
    simp
  by_cases c : l.all Lib.validRune = true
  · rw [if_pos c, if_pos c, e0]
  · rw [if_neg c, if_neg c]

theorem pair_rtab : ((uP0 ++ uP1).all fun p => decide (-2147483648 ≤ p.f0 ∧ p.f0 ≤ 2147483647)) = true := by decide +kernel
theorem pair_rng {a b : Int} (h : (prU a b).2 = true) : R32 (prU a b).1 := by
  unfold prU at h ⊢
  unfold ofP at h ⊢
  cases hf : (uP0 ++ uP1).find? (fun x => x.f1 == a && x.f2 == b) with
  | none => rw [hf] at h; exact absurd h (by decide)
  | some p =>
    have h1 := List.all_eq_true.1 pair_rtab p (List.mem_of_find?_eq_some hf)
    show -2147483648 ≤ p.f0 ∧ p.f0 ≤ 2147483647
    exact of_decide_eq_true h1
theorem dec_rtab : (ptsU.all fun r => (apartK 4 r).all fun x => decide (-2147483648 ≤ x ∧ x ≤ 2147483647)) = true := by decide +kernel
theorem apart_rng {r : Int} (h : R32 r) : ∀ y ∈ apartK 4 r, R32 y := fun y hy => by
  by_cases hm : r ∈ ptsU
  · show -2147483648 ≤ y ∧ y ≤ 2147483647
    exact of_decide_eq_true (List.all_eq_true.1 (List.all_eq_true.1 dec_rtab r hm) y hy)
  · rw [apartK_nil (decU_pts hm)] at hy
    rw [List.mem_singleton.1 hy]
    exact h
theorem apL_rng {l : List Int} (h : ∀ x ∈ l, R32 x) : ∀ y ∈ apL l, R32 y := fun y hy => by
  unfold apL at hy
  obtain ⟨x, hx, hy⟩ := List.mem_flatMap.1 hy
  exact apart_rng (h x hx) y hy
theorem cps_rng : ∀ (rest done : List Int) (st : Option Int) (seg : List Int) (last : Int), (∀ x ∈ rest, R32 x) → (∀ x ∈ done, R32 x) → (∀ x, st = some x → R32 x) → (∀ x ∈ seg, R32 x) → ∀ y ∈ cpsU rest done st seg last, R32 y
  | [], done, none, seg, last, hr, hd, hs, hg, y, hy => by
    rw [cpsU] at hy
    rcases List.mem_append.1 hy with h | h
    · exact hd y h
    · exact hg y h
  | [], done, some s, seg, last, hr, hd, hs, hg, y, hy => by
    rw [cpsU] at hy
    rcases List.mem_append.1 hy with h | h
    · exact hd y h
    · rcases List.mem_cons.1 h with rfl | h
      · exact hs _ rfl
      · exact hg y h
  | r :: t, done, some s, seg, last, hr, hd, hs, hg, y, hy => by
    have hr1 := hr r List.mem_cons_self
    have hrt : ∀ x ∈ t, R32 x := fun x hx => hr x (List.mem_cons_of_mem _ hx)
    rw [cpsU] at hy
    split at hy
    · rename_i hc
      exact cps_rng t done (some (prU s r).1) seg last hrt hd (fun x hx => by cases hx; exact pair_rng hc.2) hg y hy
    · split at hy
      · refine cps_rng t (done ++ s :: seg) (some r) [] 0 hrt (fun x hx => ?_) (fun x hx => by cases hx; exact hr1) (fun x hx => by simp at hx) y hy
        rcases List.mem_append.1 hx with h | h
        · exact hd x h
        · rcases List.mem_cons.1 h with rfl | h
          · exact hs _ rfl
          · exact hg x h
      · refine cps_rng t done (some s) (seg ++ [r]) (clsU r) hrt hd hs (fun x hx => ?_) y hy
        rcases List.mem_append.1 hx with h | h
        · exact hg x h
        · rw [List.mem_singleton.1 h]; exact hr1
  | r :: t, done, none, seg, last, hr, hd, hs, hg, y, hy => by
    have hr1 := hr r List.mem_cons_self
    have hrt : ∀ x ∈ t, R32 x := fun x hx => hr x (List.mem_cons_of_mem _ hx)
    rw [cpsU] at hy
    split at hy
    · refine cps_rng t (done ++ seg) (some r) [] 0 hrt (fun x hx => ?_) (fun x hx => by cases hx; exact hr1) (fun x hx => by simp at hx) y hy
      rcases List.mem_append.1 hx with h | h
      · exact hd x h
      · exact hg x h
    · refine cps_rng t done none (seg ++ [r]) (clsU r) hrt hd (fun x hx => by cases hx) (fun x hx => ?_) y hy
      rcases List.mem_append.1 hx with h | h
      · exact hg x h
      · rw [List.mem_singleton.1 h]; exact hr1
theorem nfc_rng {l : List Int} (h : ∀ x ∈ l, R32 x) : ∀ y ∈ nfcU l, R32 y :=
  cps_rng (nfdU l) [] none [] 0 (fun x hx => apL_rng h x ((ordM_perm clsU (apL l)).mem_iff.1 hx)) (fun x hx => by simp at hx) (fun x hx => by cases hx) (fun x hx => by simp at hx)

theorem text_is (t : List UInt8) (hs : t.length ≤ 600) : ∃ r, Ev (fun k => norm_Text.f k (mkB t)) r ∧ Ev (fun k => portcullisref04_Text.f k (mkB t)) r := by
  have hl := decL_len t.length t
  have hrg := decL_rng t.length t
  have l1 := nfd_len (decL t.length t)
  have l2 := nfc_len (decL t.length t)
  obtain ⟨K1, h1⟩ := nfc_is (decL t.length t) (by omega)
  obtain ⟨K2, h2⟩ := refNFC_is (decL t.length t) (by omega)
  obtain ⟨K3, h3⟩ := refDecode_is t (by omega)
  obtain ⟨K4, h4⟩ := refEnc_is (nfcU (decL t.length t)) (by omega)
  refine ⟨(encP (nfcU (decL t.length t))).1, ⟨K1, fun k hk => ?_⟩, ⟨K2 + K3 + K4, fun k hk => ?_⟩⟩
  · have e1 := h1 k hk
    simp only at e1 ⊢
    unfold norm_Text.f
    rw [utfDecode_is t (by omega), Option.bind_some, e1, Option.bind_some]
    unfold utf_Encode.f
    rw [if_pos ⟨by omega, fun x hx => nfc_rng hrg x hx⟩, Option.bind_some]
  · have e2 := h2 k (by omega)
    have e3 := h3 k (by omega)
    have e4 := h4 k (by omega)
    simp only at e2 e3 e4 ⊢
    unfold portcullisref04_Text.f
    rw [e3, Option.bind_some, e2, Option.bind_some, e4]
end Go.Proofs.YtanpephfnjnfoaaDoor.Pr
end

section
namespace Go.Proofs.YtanpephfnjnfoaaDoor.Pure
open Go.RowKit Go.Proofs.YtanpephfnjnfoaaDoor.Pr Go.Proofs.YtanpephfnjnfoaaDoorW.PrintWords Go.Proofs.YtanpephfnjnfoaaDoorW.PrintLast Go.Proofs.YtanpephfnjnfoaaDoorW.PrintMore
set_option linter.unusedVariables false
set_option linter.unusedSimpArgs false

theorem makes_works (l : List Int) (s : ByteArray) : Pr.Ev (fun k => portcullislaw04_NormMakes.j0 k l s true) true := by
  refine Pr.Ev.step (fun k => ?_) works_is
  rw [portcullislaw04_NormMakes.j0, if_pos rfl]
  cases portcullislaw04_works.f k <;> rfl
theorem makes_main (l : List Int) (t : List UInt8) (hl : l.length ≤ 300) (ht : t.length ≤ 600) : Pr.Ev (fun k => portcullislaw04_NormMakes.j0 k l (mkB t) false) true := by
  obtain ⟨K0, h0⟩ := works_is
  have l1 := nfd_len l
  have l2 := nfc_len l
  have l3 := ordM_len l
  obtain ⟨K1, h1⟩ := nfc_is l (by omega)
  obtain ⟨K2, h2⟩ := refNFC_is l (by omega)
  obtain ⟨K3, h3⟩ := refNFD_is l (by omega)
  obtain ⟨K4, h4⟩ := refOrder_is l (by omega)
  have n1 := nfd_is l (by omega)
  obtain ⟨K5, h5⟩ := same_is (nfcU l) (nfcU l) (by omega)
  obtain ⟨K6, h6⟩ := same_is (nfdU l) (nfdU l) (by omega)
  obtain ⟨K7, h7⟩ := same_is (ordM clsU l) (ordM clsU l) (by omega)
  obtain ⟨K8, h8⟩ := same_is (nfcU l) l (by omega)
  obtain ⟨K9, h9⟩ := same_is l l (by omega)
  obtain ⟨K10, h10⟩ := is_is l (by omega)
  obtain ⟨r, ⟨K11, h11⟩, ⟨K12, h12⟩⟩ := text_is t ht
  have p1 := copied_is l (by omega)
  have o1 : norm_Order.f l = some (ordM clsU l) := by unfold norm_Order.f; rw [if_pos (by omega)]
  refine ⟨K0 + K1 + K2 + K3 + K4 + K5 + K6 + K7 + K8 + K9 + K10 + K11 + K12 + 2, fun k hk => ?_⟩
  obtain ⟨k, rfl⟩ : ∃ k', k = k' + 2 := ⟨k - 2, by omega⟩
  have e0 := h0 k (by omega)
  have e1 := h1 (k + 1) (by omega)
  have e2 := h2 (k + 1) (by omega)
  have e3 := h3 (k + 1) (by omega)
  have e4 := h4 (k + 1) (by omega)
  have e5 := h5 (k + 1) (by omega)
  have e6 := h6 (k + 1) (by omega)
  have e7 := h7 (k + 1) (by omega)
  have e8 := h8 k (by omega)
  have e9 := h9 k (by omega)
  have e10 := h10 k (by omega)
  have e11 := h11 k (by omega)
  have e12 := h12 k (by omega)
  simp only [decide_true] at e0 e1 e2 e3 e4 e5 e6 e7 e8 e9 e10 e11 e12
  show portcullislaw04_NormMakes.j0 (k + 1 + 1) l (mkB t) false = some true
  rw [portcullislaw04_NormMakes.j0, if_neg (by decide)]
  simp only [p1, o1, n1, e1, e2, e3, e4, e5, e6, e7, Option.bind_some, if_true]
  rw [portcullislaw04_NormMakes.j1, if_pos rfl]
  simp only [e0, e8, e9, e10, e11, e12, Option.bind_some, if_true, beq_self_eq_true]
theorem NormMakes : portcullislaw04_NormMakes.Pure := by
  intro l s hm hl hw hs
  have key : Pr.Ev (fun k => portcullislaw04_NormMakes.f k l s) true := by
    by_cases c1 : (l.length : Int) > 300
    · refine Pr.Ev.of_eq (fun k => ?_) (makes_works l s)
      unfold portcullislaw04_NormMakes.f
      rw [if_pos c1]
    · by_cases c2 : (s.size : Int) > 600
      · refine Pr.Ev.of_eq (fun k => ?_) (makes_works l s)
        unfold portcullislaw04_NormMakes.f
        rw [if_neg c1, decide_eq_true c2]
      · have hsz : s.data.toList.length = s.size := data_length s
        refine Pr.Ev.of_eq (fun k => ?_) (makes_main l s.data.toList (by omega) (by omega))
        unfold portcullislaw04_NormMakes.f
        rw [if_neg c1, decide_eq_false c2, mkB_data]
  exact key.ex
end Go.Proofs.YtanpephfnjnfoaaDoor.Pure
end
