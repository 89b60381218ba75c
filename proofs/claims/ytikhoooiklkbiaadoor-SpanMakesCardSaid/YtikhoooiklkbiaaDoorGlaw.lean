import Derived.Test.YtikhoooiklkbiaaDoorGbck
import Derived.Test.YtikhoooiklkbiaaDoorKhas
import Derived.Test.YtikhoooiklkbiaaDoorKcop
import Derived.Test.YtikhoooiklkbiaaDoorPrA5
namespace Go.Proofs.YtikhoooiklkbiaaDoor.Pr
open Go.RowKit Go.Proofs.YtikhoooiklkbiaaDoorW.PrintWords Go.Proofs.YtikhoooiklkbiaaDoorW.PrintLast Go.Proofs.YtikhoooiklkbiaaDoorW.PrintMore
set_option linter.unusedVariables false
set_option linter.unusedSimpArgs false

/-! ### Counting -/
def cntL : List Sp → Int
  | [] => 0
  | s :: l => (s.f1 - s.f0 + 1) + cntL l
def b2i (b : Bool) : Int := if b = true then 1 else 0
def cntN (f : Int → Bool) : Nat → Int
  | 0 => 0
  | n + 1 => cntN f n + b2i (f (n : Int))
theorem cntN_congr {f g : Int → Bool} : ∀ (N : Nat), (∀ r : Nat, r < N → f r = g r) → cntN f N = cntN g N
  | 0, _ => rfl
  | n + 1, h => by unfold cntN; rw [cntN_congr n (fun r hr => h r (by omega)), h n (by omega)]
theorem cntN_sum {f g p q : Int → Bool} : ∀ (N : Nat), (∀ r : Nat, r < N → b2i (f r) + b2i (g r) = b2i (p r) + b2i (q r)) → cntN f N + cntN g N = cntN p N + cntN q N
  | 0, _ => rfl
  | n + 1, h => by
    have ih := cntN_sum (f := f) (g := g) (p := p) (q := q) n (fun r hr => h r (by omega))
    have := h n (by omega)
    unfold cntN
    omega
theorem cntN_false : ∀ N : Nat, cntN (fun _ => false) N = 0
  | 0 => rfl
  | n + 1 => by unfold cntN; rw [cntN_false n]; rfl
theorem cntN_true : ∀ N : Nat, cntN (fun _ => true) N = N
  | 0 => rfl
  | n + 1 => by unfold cntN; rw [cntN_true n]; unfold b2i; rw [if_pos rfl]; omega
theorem cntN_in (s : Sp) (h0 : 0 ≤ s.f0) (h : s.f0 ≤ s.f1) : ∀ N : Nat, cntN (fun r => decide (inS s r)) N = if (N : Int) ≤ s.f0 then 0 else if (N : Int) ≤ s.f1 then N - s.f0 else s.f1 - s.f0 + 1
  | 0 => by unfold cntN; rw [if_pos (by omega)]
  | n + 1 => by
    unfold cntN
    rw [cntN_in s h0 h n]
    by_cases hi : inS s (n : Int)
    · have hb : b2i (decide (inS s (n : Int))) = 1 := by unfold b2i; rw [if_pos (decide_eq_true hi)]
      rw [hb]
      unfold inS at hi
      split <;> split <;> (try split) <;> (try split) <;> omega
    · have hb : b2i (decide (inS s (n : Int))) = 0 := by unfold b2i; rw [decide_eq_false hi]; rfl
      rw [hb]
      unfold inS at hi
      split <;> split <;> (try split) <;> (try split) <;> omega
theorem cnt_is (N : Nat) (hN : N = 1114112) : ∀ (l : List Sp), Nf l → cntL l = cntN (fun r => hasL l r) N
  | [], _ => (cntN_false N).symm
  | s :: l, h => by
    have hs := h.1 s (by simp)
    unfold okS at hs
    have hl : Nf l := ⟨fun x hx => h.1 x (List.mem_cons_of_mem _ hx), (List.pairwise_cons.1 h.2).2⟩
    have ih := cnt_is N hN l hl
    have hin := cntN_in s hs.1 hs.2.1 N
    rw [if_neg (by omega), if_neg (by omega)] at hin
    have hsum := cntN_sum (f := fun r => hasL (s :: l) r) (g := fun _ => false) (p := fun r => decide (inS s r)) (q := fun r => hasL l r) N (fun r hr => by
      rw [hasL_cons]
      by_cases hi : inS s r
      · have : hasL l r = false := by
          rw [Bool.eq_false_iff]
          intro e
          obtain ⟨y, hy, h2⟩ := hasL_true.1 e
          have := (List.pairwise_cons.1 h.2).1 y hy
          unfold inS at hi h2
          omega
        rw [decide_eq_true hi, this]; rfl
      · rw [decide_eq_false hi, Bool.false_or]; unfold b2i; simp only [Bool.false_eq_true, if_false]; omega)
    rw [cntN_false] at hsum
    unfold cntL
    omega
theorem cntL_bound (l : List Sp) (h : ∀ s ∈ l, okS s) : 0 ≤ cntL l ∧ cntL l ≤ 1114112 * l.length := by
  induction l with
  | nil => exact ⟨Int.le_refl _, by simp [cntL]⟩
  | cons s l ih =>
    have hs := h s (by simp)
    unfold okS at hs
    have := ih (fun x hx => h x (List.mem_cons_of_mem _ hx))
    unfold cntL
    simp only [List.length_cons]
    omega
theorem cntL_append : ∀ a b : List Sp, cntL (a ++ b) = cntL a + cntL b
  | [], b => by simp [cntL]
  | s :: a, b => by
    have := cntL_append a b
    show (s.f1 - s.f0 + 1) + cntL (a ++ b) = (s.f1 - s.f0 + 1) + cntL a + cntL b
    omega
theorem wdiff (s : Sp) (h : okS s) : wrap64 (wrap32 (s.f1 - s.f0)) = s.f1 - s.f0 := by
  unfold okS at h
  rw [w32s _ (by omega) (by omega), IntWalk.wrap64_in _ (by omega)]
theorem w64b (x : Int) (h : -1 ≤ x) (h2 : x ≤ 100000000000) : wrap64 x = x := IntWalk.wrap64_in _ (by omega)
theorem cnt_go (m : List Sp) (hm : ∀ s ∈ m, okS s) (hl : m.length ≤ 1024) : ∀ (rest pre : List Sp), m = pre ++ rest → Ev (fun k => span_Count.l0 k (cntL pre) m (m.length : Int) (pre.length : Int)) (cntL m)
  | [], pre, he => by
    have hlen : m.length = pre.length := by rw [he]; simp
    refine Ev.one (fun k => ?_)
    rw [span_Count.l0, if_neg (by omega), he, List.append_nil]
  | s :: rest, pre, he => by
    have hlen : m.length = pre.length + 1 + rest.length := by rw [he]; simp; omega
    have h1 : rd_T37 m (pre.length : Int) = s := by rw [he]; exact rdT_app _ _ _
    have hs := hm s (by rw [he]; simp)
    have hb := cntL_bound pre (fun x hx => hm x (by rw [he]; exact List.mem_append_left _ hx))
    have ih := cnt_go m hm hl rest (pre ++ [s]) (by rw [he]; simp)
    rw [show (pre ++ [s]).length = pre.length + 1 by simp, cntL_append] at ih
    have hb2 : cntL [s] = s.f1 - s.f0 + 1 := by simp [cntL]
    rw [hb2] at ih
    have hw1 : wrap64 (cntL pre + (s.f1 - s.f0 + 1)) = cntL pre + (s.f1 - s.f0 + 1) := w64b _ (by unfold okS at hs; omega) (by unfold okS at hs; omega)
    have hw2 : wrap64 (s.f1 - s.f0 + 1) = s.f1 - s.f0 + 1 := w64b _ (by unfold okS at hs; omega) (by unfold okS at hs; omega)
    have k1 : (pre.length : Int) < (m.length : Int) := by omega
    have k2 : (0 : Int) ≤ (pre.length : Int) := by omega
    have k3 := w64n pre.length (by omega)
    refine Ev.step (fun k => ?_) ih
    rw [span_Count.l0, if_pos k1, if_pos k2, if_pos k1, h1, wdiff s hs, hw2, hw1, k3]
theorem count_is (l : List Sp) (hl : l.length ≤ 100000) : Ev (fun k => span_Count.f k l) (cntL (madeR cNorm l []).1) := by
  have hn := madeR_nf cNorm l []
  unfold span_Count.f
  refine Ev.of_eq (fun k => ?_) (cnt_go (madeR cNorm l []).1 hn.1.1 hn.2 (madeR cNorm l []).1 [] rfl)
  rw [snorm_is l hl, Option.bind_some]
  rfl
theorem rcnt_go (m : List Sp) (hm : ∀ s ∈ m, okS s) (hl : m.length ≤ 1024) : ∀ (rest pre : List Sp), m = pre ++ rest → Ev (fun k => portcullisref02_Count.l0 k m (cntL pre) (pre.length : Int)) (cntL m)
  | [], pre, he => by
    have hlen : m.length = pre.length := by rw [he]; simp
    refine Ev.one (fun k => ?_)
    rw [portcullisref02_Count.l0, if_neg (by omega), he, List.append_nil]
  | s :: rest, pre, he => by
    have hlen : m.length = pre.length + 1 + rest.length := by rw [he]; simp; omega
    have h1 : rd_T37 m (pre.length : Int) = s := by rw [he]; exact rdT_app _ _ _
    have hs := hm s (by rw [he]; simp)
    have hb := cntL_bound pre (fun x hx => hm x (by rw [he]; exact List.mem_append_left _ hx))
    have ih := rcnt_go m hm hl rest (pre ++ [s]) (by rw [he]; simp)
    rw [show (pre ++ [s]).length = pre.length + 1 by simp, cntL_append] at ih
    have hb2 : cntL [s] = s.f1 - s.f0 + 1 := by simp [cntL]
    rw [hb2, ← Int.add_assoc] at ih
    have hw1 : wrap64 (cntL pre + (s.f1 - s.f0)) = cntL pre + (s.f1 - s.f0) := w64b _ (by unfold okS at hs; omega) (by unfold okS at hs; omega)
    have hw2 : wrap64 (cntL pre + (s.f1 - s.f0) + 1) = cntL pre + (s.f1 - s.f0) + 1 := w64b _ (by unfold okS at hs; omega) (by unfold okS at hs; omega)
    have k1 : (pre.length : Int) < (m.length : Int) := by omega
    have k2 : (0 : Int) ≤ (pre.length : Int) := by omega
    have k3 := w64n pre.length (by omega)
    refine Ev.step (fun k => ?_) ih
    rw [portcullisref02_Count.l0, if_pos k1, if_pos k2, h1, wdiff s hs, hw1, hw2, k3]
theorem rcount_is (l : List Sp) (hl : l.length ≤ 100000) : Ev (fun k => portcullisref02_Count.f k l) (cntL (madeR cNorm l []).1) := by
  have hn := madeR_nf cNorm l []
  unfold portcullisref02_Count.f
  exact Ev.bind (F := fun k bt => portcullisref02_Count.l0 k bt.1 0 0) (rnorm_is l hl) (rcnt_go (madeR cNorm l []).1 hn.1.1 hn.2 (madeR cNorm l []).1 [] rfl)
/-! ### the law's own -/
theorem same_go (m : List Sp) (hl : m.length ≤ 1000000) : ∀ (rest pre : List Sp), m = pre ++ rest → Ev (fun k => portcullislaw02_same.l0 k m m (pre.length : Int)) true
  | [], pre, he => by
    have hlen : m.length = pre.length := by rw [he]; simp
    refine Ev.one (fun k => ?_)
    rw [portcullislaw02_same.l0, if_neg (by omega)]
  | s :: rest, pre, he => by
    have hlen : m.length = pre.length + 1 + rest.length := by rw [he]; simp; omega
    have ih := same_go m hl rest (pre ++ [s]) (by rw [he]; simp)
    rw [show (pre ++ [s]).length = pre.length + 1 by simp] at ih
    have k1 : (pre.length : Int) < (m.length : Int) := by omega
    have k2 : (0 : Int) ≤ (pre.length : Int) := by omega
    have k3 := w64n pre.length (by omega)
    refine Ev.step (fun k => ?_) ih
    rw [portcullislaw02_same.l0, if_pos k1, if_pos k2, if_pos k1, if_neg (by simp), k3]
theorem same_is (m : List Sp) (hl : m.length ≤ 1000000) : Ev (fun k => portcullislaw02_same.f k m m) true := by
  refine Ev.of_eq (fun k => ?_) (same_go m hl m [] rfl)
  unfold portcullislaw02_same.f
  rw [if_pos rfl]
  rfl
theorem copied_is (l : List Sp) (h : l.length ≤ 1000000) : portcullislaw02_copied.f l = some l := by unfold portcullislaw02_copied.f; rw [if_pos h]
theorem hasF_is (l : List Sp) (r : Int) (h : l.length ≤ 100000) : span_Has.f l r = some (decide (chk l = 0) && hasL l r) := by unfold span_Has.f; rw [if_pos h]
theorem nf_one (a b : Int) (h : okS ⟨a, b⟩) : Nf [⟨a, b⟩] := ⟨fun x hx => by rw [List.mem_singleton.1 hx]; exact h, List.pairwise_singleton _ _⟩
theorem works_is : Ev portcullislaw02_works.f true := by
  have hN : madeR cNorm [(⟨99, 102⟩ : Sp), ⟨97, 98⟩, ⟨101, 104⟩] [] = ([⟨97, 104⟩], 0) := by
    have hok : ∀ s ∈ [(⟨99, 102⟩ : Sp), ⟨97, 98⟩, ⟨101, 104⟩], okS s := by
      intro s hs
      simp only [List.mem_cons, List.not_mem_nil, or_false] at hs
      rcases hs with rfl | rfl | rfl <;> (unfold okS; decide)
    have hm := made_nf cNorm _ [] hok (fun s hs => (List.not_mem_nil hs).elim)
    have e : madeF cNorm [(⟨99, 102⟩ : Sp), ⟨97, 98⟩, ⟨101, 104⟩] [] = [⟨97, 104⟩] := nf_unique _ _ hm.1 (nf_one 97 104 (by unfold okS; decide)) (fun r => by
      rw [hm.2]
      show (if 0 ≤ r ∧ r ≤ 1114111 then (decide (99 ≤ r ∧ r ≤ 102) || (decide (97 ≤ r ∧ r ≤ 98) || (decide (101 ≤ r ∧ r ≤ 104) || false))) else false) = (decide (97 ≤ r ∧ r ≤ 104) || false)
      by_cases h : 97 ≤ r ∧ r ≤ 104
      · rw [if_pos (by omega), decide_eq_true h]
        rcases (by omega : (99 ≤ r ∧ r ≤ 102) ∨ (97 ≤ r ∧ r ≤ 98) ∨ (101 ≤ r ∧ r ≤ 104)) with h | h | h
        · rw [decide_eq_true h]; rfl
        · rw [decide_eq_true h]; simp
        · rw [decide_eq_true h]; simp
      · rw [decide_eq_false h, decide_eq_false (show ¬ (99 ≤ r ∧ r ≤ 102) by omega), decide_eq_false (show ¬ (97 ≤ r ∧ r ≤ 98) by omega), decide_eq_false (show ¬ (101 ≤ r ∧ r ≤ 104) by omega)]
        simp)
    have hl := madeF_len cNorm [(⟨99, 102⟩ : Sp), ⟨97, 98⟩, ⟨101, 104⟩] []
    rw [madeR_ok (chk_of hok (by simp)) chk_nil (by simp at hl; omega), e]
  have nf1 : Nf [(⟨97, 104⟩ : Sp)] := nf_one 97 104 (by unfold okS; decide)
  have hT := txt_is [⟨97, 104⟩] [⟨97, 104⟩] 0 (by rw [snorm_is _ (by simp), madeR_self cNorm (fun x => rfl) _ nf1 (by simp)]) nf1.1 (by simp)
  have ht : (mkB (textL [(⟨97, 104⟩ : Sp)])).toList = [54, 49, 45, 54, 56] := by
    rw [Lib.toList_data, data_mkB]
    have h1 : digs 16 97 = [54, 49] := by rw [digs_step (by decide) (by decide), digs_small (by decide)]; rfl
    have h2 : digs 16 104 = [54, 56] := by rw [digs_step (by decide) (by decide), digs_small (by decide)]; rfl
    show digs 16 97 ++ (45 :: digs 16 104) ++ [] = _
    rw [h1, h2]
    rfl
  have hP1 : span_Parse.f (⟨#[54, 49, 44, 54, 50]⟩ : ByteArray) = some ([], 3, 8) := by kernel_rfl
  have hP2 : span_Parse.f (⟨#[54, 49, 44, 54, 51, 45, 55, 97]⟩ : ByteArray) = some ([⟨97, 97⟩, ⟨99, 122⟩], 0, 0) := by kernel_rfl
  have nf2 : Nf [(⟨97, 97⟩ : Sp), ⟨99, 122⟩] := nf_cons (nf_one 99 122 (by unfold okS; decide)) (by unfold okS; decide) (fun s hs => by rw [List.mem_singleton.1 hs]; decide)
  have hC := count_is [(⟨97, 97⟩ : Sp), ⟨99, 122⟩] (by simp)
  rw [madeR_self cNorm (fun x => rfl) _ nf2 (by simp)] at hC
  obtain ⟨K1, hK1⟩ := hT
  obtain ⟨K2, hK2⟩ := hC
  refine ⟨K1 + K2, fun k hk => ?_⟩
  have e1 := hK1 k (by omega)
  have e2 := hK2 k (by omega)
  simp only at e1 e2
  have hH1 : span_Has.f [(⟨97, 97⟩ : Sp), ⟨99, 122⟩] 100 = some true := by rw [hasF_is _ _ (by simp), chk_of nf2.1 (by simp)]; rfl
  have hH2 : span_Has.f [(⟨97, 97⟩ : Sp), ⟨99, 122⟩] 98 = some false := by rw [hasF_is _ _ (by simp), chk_of nf2.1 (by simp)]; rfl
  unfold portcullislaw02_works.f
  rw [snorm_is _ (by simp), hN, Option.bind_some]
  dsimp only
  rw [e1, Option.bind_some, hP1, Option.bind_some, hP2, Option.bind_some]
  dsimp only
  rw [if_pos ht]
  simp [hH1, hH2, e2, cntL]
end Go.Proofs.YtikhoooiklkbiaaDoor.Pr
