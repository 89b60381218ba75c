import Derived.Test.YtikhoooiklkbiaaDoorPr0
import Derived.Test.YtikhoooiklkbiaaDoorPrA3
import Derived.Test.YtikhoooiklkbiaaDoorPrA5
import Derived.IntWalk
namespace Go.Proofs.YtikhoooiklkbiaaDoor.Pr
open Go.RowKit Go.Proofs.YtikhoooiklkbiaaDoorW.PrintWords Go.Proofs.YtikhoooiklkbiaaDoorW.PrintLast Go.Proofs.YtikhoooiklkbiaaDoorW.PrintMore
set_option linter.unusedVariables false
set_option linter.unusedSimpArgs false

/-! ### Sets of code points as rows of spans: the plain law of the sweep -/
abbrev Sp := S37
abbrev Ed := S68
def inS (s : Sp) (r : Int) : Prop := s.f0 ≤ r ∧ r ≤ s.f1
instance (s : Sp) (r : Int) : Decidable (inS s r) := by unfold inS; infer_instance
def hasL (l : List Sp) (r : Int) : Bool := l.any fun s => decide (inS s r)
def okS (s : Sp) : Prop := 0 ≤ s.f0 ∧ s.f0 ≤ s.f1 ∧ s.f1 ≤ 1114111
def put (out : List Sp) (p q : Int) : List Sp := match out.getLast? with
  | some s => if s.f1 + 1 = p then out.dropLast ++ [⟨s.f0, q - 1⟩] else out ++ [⟨p, q - 1⟩]
  | none => out ++ [⟨p, q - 1⟩]
def build (cnt : Int → Bool) : List Int → List Sp → List Sp
  | p :: q :: r, out => build cnt (q :: r) (if cnt p = true then put out p q else out)
  | _, out => out
def dedupA : List Int → List Int
  | p :: q :: r => if p = q then dedupA (q :: r) else p :: dedupA (q :: r)
  | l => l
def buildD (cnt : Int → Bool) : List Int → List Sp → List Sp
  | p :: q :: r, out => buildD cnt (q :: r) (if p ≠ q ∧ cnt p = true then put out p q else out)
  | _, out => out
theorem dedupA_head : ∀ (q : Int) (r : List Int), ∃ t, dedupA (q :: r) = q :: t
  | q, [] => ⟨[], rfl⟩
  | q, y :: r => by
    unfold dedupA
    split
    · next h =>
      obtain ⟨t, ht⟩ := dedupA_head y r
      exact ⟨t, by rw [ht, h]⟩
    · exact ⟨_, rfl⟩
theorem buildD_dedup (cnt : Int → Bool) : ∀ (l : List Int) (out : List Sp), buildD cnt l out = build cnt (dedupA l) out
  | [], out => rfl
  | [p], out => rfl
  | p :: q :: r, out => by
    unfold buildD dedupA
    by_cases h : p = q
    · rw [if_pos h, if_neg (fun e => e.1 h)]
      exact buildD_dedup cnt (q :: r) out
    · rw [if_neg h]
      obtain ⟨t, ht⟩ := dedupA_head q r
      have ih := fun o => buildD_dedup cnt (q :: r) o
      rw [ht] at ih ⊢
      unfold build
      rw [ih]
      by_cases hc : cnt p = true
      · rw [if_pos ⟨h, hc⟩, if_pos hc]
      · rw [if_neg (fun e => hc e.2), if_neg hc]
/-! edges -/
def edgesOf (set : Int) (l : List Sp) : List Ed := l.flatMap fun s => [⟨s.f0, 1, set⟩, ⟨s.f1 + 1, -1, set⟩]
def allE (a b : List Sp) : List Ed := (edgesOf 0 a ++ edgesOf 1 b) ++ [⟨0, 0, 0⟩, ⟨1114112, 0, 0⟩]
def cov (set p : Int) : List Ed → Int
  | [] => 0
  | e :: r => (if e.f2 = set ∧ e.f0 ≤ p then e.f1 else 0) + cov set p r
theorem cov_cons (set p : Int) (e : Ed) (r : List Ed) : cov set p (e :: r) = (if e.f2 = set ∧ e.f0 ≤ p then e.f1 else 0) + cov set p r := rfl
theorem cov_append (set p : Int) : ∀ l m : List Ed, cov set p (l ++ m) = cov set p l + cov set p m
  | [], m => by simp [cov]
  | e :: l, m => by
    rw [List.cons_append, cov_cons, cov_cons, cov_append set p l m]
    omega
theorem cov_perm (set p : Int) {l m : List Ed} (h : l.Perm m) : cov set p l = cov set p m := by
  induction h with
  | nil => rfl
  | cons x _ ih => show _ + _ = _ + _; rw [ih]
  | swap x y l => show _ + (_ + _) = _ + (_ + _); omega
  | trans _ _ h1 h2 => exact h1.trans h2
/-- How many spans there lie over a place. -/
def numL : List Sp → Int → Int
  | [], _ => 0
  | s :: l, p => (if inS s p then 1 else 0) + numL l p
theorem numL_cons (s : Sp) (l : List Sp) (p : Int) : numL (s :: l) p = (if inS s p then 1 else 0) + numL l p := rfl
theorem numL_nn : ∀ (l : List Sp) (p : Int), 0 ≤ numL l p
  | [], _ => Int.le_refl _
  | s :: l, p => by
    have := numL_nn l p
    rw [numL_cons]
    split <;> omega
theorem numL_has : ∀ (l : List Sp) (p : Int), decide (0 < numL l p) = hasL l p
  | [], p => rfl
  | s :: l, p => by
    have ih := numL_has l p
    have h0 := numL_nn l p
    rw [numL_cons]
    unfold hasL
    rw [List.any_cons]
    by_cases h : inS s p
    · rw [if_pos h, decide_eq_true h, Bool.true_or]
      exact decide_eq_true (by omega)
    · rw [if_neg h, decide_eq_false h, Bool.false_or, Int.zero_add]
      exact ih
theorem cov_edges (set p : Int) : ∀ (l : List Sp), (∀ s ∈ l, okS s) → cov set p (edgesOf set l) = numL l p
  | [], _ => rfl
  | s :: l, h => by
    have ih := cov_edges set p l (fun x hx => h x (List.mem_cons_of_mem _ hx))
    have hs := h s (by simp)
    unfold okS at hs
    show cov set p (⟨s.f0, 1, set⟩ :: ⟨s.f1 + 1, -1, set⟩ :: edgesOf set l) = _
    rw [cov_cons, cov_cons, ih, numL_cons]
    simp only [true_and]
    by_cases h1 : s.f0 ≤ p
    · rw [if_pos h1]
      by_cases h2 : s.f1 + 1 ≤ p
      · have hn : ¬ inS s p := fun e => by have := e.2; omega
        rw [if_pos h2, if_neg hn]; omega
      · have hn : inS s p := ⟨h1, by omega⟩
        rw [if_neg h2, if_pos hn]; omega
    · have hn : ¬ inS s p := fun e => h1 e.1
      rw [if_neg h1, if_neg (by omega), if_neg hn]; omega
theorem cov_other (set set' p : Int) (hne : set' ≠ set) : ∀ (l : List Sp), cov set p (edgesOf set' l) = 0
  | [] => rfl
  | s :: l => by
    show cov set p (⟨s.f0, 1, set'⟩ :: ⟨s.f1 + 1, -1, set'⟩ :: edgesOf set' l) = _
    rw [cov_cons, cov_cons, cov_other set set' p hne l, if_neg (fun e => hne e.1), if_neg (fun e => hne e.1)]
    rfl
theorem cov_all0 (a b : List Sp) (p : Int) (ha : ∀ s ∈ a, okS s) : cov 0 p (allE a b) = numL a p := by
  unfold allE
  rw [cov_append, cov_append, cov_edges 0 p a ha, cov_other 0 1 p (by decide)]
  simp [cov]
theorem cov_all1 (a b : List Sp) (p : Int) (hb : ∀ s ∈ b, okS s) : cov 1 p (allE a b) = numL b p := by
  unfold allE
  rw [cov_append, cov_append, cov_edges 1 p b hb, cov_other 1 0 p (by decide)]
  simp [cov]
/-! the sweep -/
def stepI (set : Int) (x : Ed) (i : Int) : Int := if x.f2 = set then i + x.f1 else i
def sw (c2 : Bool → Bool → Bool) : List Ed → Int → Int → List Sp → List Sp
  | x :: y :: r, i0, i1, out => sw c2 (y :: r) (stepI 0 x i0) (stepI 1 x i1) (if y.f0 ≠ x.f0 ∧ c2 (decide (0 < stepI 0 x i0)) (decide (0 < stepI 1 x i1)) = true then put out x.f0 y.f0 else out)
  | _, _, _, out => out
/-- Up to p: all that lies in front. -/
theorem cov_front (set p : Int) : ∀ l : List Ed, (∀ e ∈ l, e.f0 ≤ p) → cov set p l = l.foldr (fun e i => stepI set e i) 0
  | [], _ => rfl
  | e :: l, h => by
    have ih := cov_front set p l (fun x hx => h x (List.mem_cons_of_mem _ hx))
    have he := h e (by simp)
    rw [cov_cons, ih, List.foldr_cons]
    generalize l.foldr (fun e i => stepI set e i) 0 = z
    unfold stepI
    by_cases hs : e.f2 = set
    · rw [if_pos ⟨hs, he⟩, if_pos hs]; omega
    · rw [if_neg (fun e => hs e.1), if_neg hs]; omega
theorem cov_back (set p : Int) : ∀ l : List Ed, (∀ e ∈ l, p < e.f0) → cov set p l = 0
  | [], _ => rfl
  | e :: l, h => by
    have he := h e (by simp)
    rw [cov_cons, cov_back set p l (fun x hx => h x (List.mem_cons_of_mem _ hx)), if_neg (fun e => by omega)]
    rfl
def Asc (l : List Ed) : Prop := l.Pairwise fun x y => x.f0 ≤ y.f0
theorem sw_build (c2 : Bool → Bool → Bool) (a b : List Sp) (E : List Ed) (hE : Asc E) (h0 : ∀ p, cov 0 p E = numL a p) (h1 : ∀ p, cov 1 p E = numL b p) :
    ∀ (l pre : List Ed) (out : List Sp), E = pre ++ l → sw c2 l (cov 0 2000000 pre) (cov 1 2000000 pre) out = buildD (fun p => c2 (hasL a p) (hasL b p)) (l.map fun e => e.f0) out ∨ ¬ (∀ e ∈ E, e.f0 ≤ 2000000)
  | [], pre, out, e => .inl rfl
  | [x], pre, out, e => .inl rfl
  | x :: y :: r, pre, out, e => by
    by_cases hall : ∀ e ∈ E, e.f0 ≤ 2000000
    · left
      have ih := sw_build c2 a b E hE h0 h1 (y :: r) (pre ++ [x]) (if y.f0 ≠ x.f0 ∧ c2 (decide (0 < stepI 0 x (cov 0 2000000 pre))) (decide (0 < stepI 1 x (cov 1 2000000 pre))) = true then put out x.f0 y.f0 else out) (by rw [e]; simp)
      rcases ih with ih | ih
      · have hx2 : x.f0 ≤ 2000000 := hall x (by rw [e]; simp)
        have hs : ∀ set, cov set 2000000 (pre ++ [x]) = stepI set x (cov set 2000000 pre) := fun set => by
          rw [cov_append]
          unfold stepI
          show _ + ((if x.f2 = set ∧ x.f0 ≤ 2000000 then x.f1 else 0) + 0) = _
          by_cases hse : x.f2 = set
          · rw [if_pos ⟨hse, hx2⟩, if_pos hse]; omega
          · rw [if_neg (fun e => hse e.1), if_neg hse]; omega
        rw [hs 0, hs 1] at ih
        unfold sw
        rw [ih]
        show buildD _ (y.f0 :: r.map fun e => e.f0) _ = buildD _ (x.f0 :: y.f0 :: r.map fun e => e.f0) out
        conv => rhs; unfold buildD
        congr 1
        by_cases hxy : y.f0 = x.f0
        · rw [if_neg (fun e => e.1 hxy), if_neg (fun e => e.1 hxy.symm)]
        · have hasc : Asc (pre ++ x :: y :: r) := by rw [← e]; exact hE
          unfold Asc at hasc
          rw [List.pairwise_append] at hasc
          obtain ⟨_, hp2, hp3⟩ := hasc
          rw [List.pairwise_cons] at hp2
          obtain ⟨hp4, hp5⟩ := hp2
          rw [List.pairwise_cons] at hp5
          have hlt : x.f0 < y.f0 := by have := hp4 y (by simp); omega
          have hback : ∀ e ∈ y :: r, x.f0 < e.f0 := fun z hz => by
            rcases List.mem_cons.1 hz with rfl | hz
            · exact hlt
            · have := hp5.1 z hz; omega
          have hfront : ∀ z ∈ pre ++ [x], z.f0 ≤ x.f0 := fun z hz => by
            rcases List.mem_append.1 hz with hz | hz
            · exact hp3 z hz x (by simp)
            · rw [List.mem_singleton.1 hz]; exact Int.le_refl _
          have hfr2 : ∀ z ∈ pre ++ [x], z.f0 ≤ 2000000 := fun z hz => by have := hfront z hz; omega
          have hcov : ∀ set, cov set x.f0 E = stepI set x (cov set 2000000 pre) := fun set => by
            have e2 : E = (pre ++ [x]) ++ (y :: r) := by rw [e]; simp
            rw [e2, cov_append, cov_back set x.f0 (y :: r) hback, cov_front set x.f0 (pre ++ [x]) hfront, ← cov_front set 2000000 (pre ++ [x]) hfr2, hs set]
            omega
          rw [← hcov 0, ← hcov 1, h0, h1, numL_has, numL_has]
          by_cases hc : c2 (hasL a x.f0) (hasL b x.f0) = true
          · rw [if_pos ⟨hxy, hc⟩, if_pos ⟨Ne.symm hxy, hc⟩]
          · rw [if_neg (fun e => hc e.2), if_neg (fun e => hc e.2)]
      · exact absurd hall ih
    · exact .inr hall
/-- The sweep over edges in order makes what is made over the places. -/
theorem sweep_is (c2 : Bool → Bool → Bool) (a b : List Sp) (ha : ∀ s ∈ a, okS s) (hb : ∀ s ∈ b, okS s) (E : List Ed) (hE : Asc E) (hp : E.Perm (allE a b)) : sw c2 E 0 0 [] = build (fun p => c2 (hasL a p) (hasL b p)) (dedupA (E.map fun e => e.f0)) [] := by
  have hbound : ∀ e ∈ E, e.f0 ≤ 2000000 := by
    intro e he
    have h2 := hp.mem_iff.1 he
    unfold allE at h2
    rcases List.mem_append.1 h2 with h2 | h2
    · have hone : ∀ (set : Int) (l : List Sp), (∀ s ∈ l, okS s) → e ∈ edgesOf set l → e.f0 ≤ 2000000 := by
        intro set l hl hm
        unfold edgesOf at hm
        obtain ⟨s, hs, hm⟩ := List.mem_flatMap.1 hm
        have ho := hl s hs
        unfold okS at ho
        rcases List.mem_cons.1 hm with rfl | hm
        · simp only; omega
        · rw [List.mem_singleton.1 hm]; simp only; omega
      rcases List.mem_append.1 h2 with h2 | h2
      · exact hone 0 a ha h2
      · exact hone 1 b hb h2
    · rcases List.mem_cons.1 h2 with rfl | h2
      · simp
      · rw [List.mem_singleton.1 h2]; simp
  rcases sw_build c2 a b E hE (fun p => by rw [cov_perm 0 p hp, cov_all0 a b p ha]) (fun p => by rw [cov_perm 1 p hp, cov_all1 a b p hb]) E [] [] rfl with h | h
  · rw [← buildD_dedup]; exact h
  · exact absurd hbound h
/-! sorted rows with the same members -/
theorem asc_unique : ∀ (l m : List Int), l.Pairwise (· ≤ ·) → m.Pairwise (· ≤ ·) → l.Perm m → l = m
  | [], m, _, _, h => (List.nil_perm.1 h).symm
  | x :: l, m, hl, hm, h => by
    cases m with
    | nil => exact absurd h.symm (by simp)
    | cons y m =>
      rw [List.pairwise_cons] at hl hm
      have hxy : x = y := by
        have h1 : x ∈ y :: m := h.mem_iff.1 (by simp)
        have h2 : y ∈ x :: l := h.mem_iff.2 (by simp)
        have h3 : y ≤ x := by
          rcases List.mem_cons.1 h1 with e | e
          · omega
          · exact hm.1 x e
        have h4 : x ≤ y := by
          rcases List.mem_cons.1 h2 with e | e
          · omega
          · exact hl.1 y e
        omega
      subst hxy
      rw [asc_unique l m hl.2 hm.2 (List.Perm.cons_inv h)]
end Go.Proofs.YtikhoooiklkbiaaDoor.Pr
namespace Go.Proofs.YtikhoooiklkbiaaDoor.Pr
open Go.RowKit Go.Proofs.YtikhoooiklkbiaaDoorW.PrintWords Go.Proofs.YtikhoooiklkbiaaDoorW.PrintLast Go.Proofs.YtikhoooiklkbiaaDoorW.PrintMore
set_option linter.unusedVariables false
set_option linter.unusedSimpArgs false

/-! ### Rounds enough -/
def Ev {α : Type} (f : Nat → Option α) (r : α) : Prop := ∃ K, ∀ k, K ≤ k → f k = some r
theorem Ev.step {α : Type} {f g : Nat → Option α} {r : α} (h : ∀ k, g (k + 1) = f k) (hf : Ev f r) : Ev g r := by
  obtain ⟨K, hK⟩ := hf
  refine ⟨K + 1, fun k hk => ?_⟩
  obtain ⟨k, rfl⟩ : ∃ k', k = k' + 1 := ⟨k - 1, by omega⟩
  rw [h]
  exact hK k (by omega)
theorem Ev.one {α : Type} {g : Nat → Option α} {r : α} (h : ∀ k, g (k + 1) = some r) : Ev g r := ⟨1, fun k hk => by
  obtain ⟨k, rfl⟩ : ∃ k', k = k' + 1 := ⟨k - 1, by omega⟩
  exact h k⟩
theorem Ev.bind {α β : Type} {f : Nat → Option α} {F : Nat → α → Option β} {a : α} {r : β} (hf : Ev f a) (hF : Ev (fun k => F k a) r) : Ev (fun k => (f k).bind (F k)) r := by
  obtain ⟨K, hK⟩ := hf
  obtain ⟨M, hM⟩ := hF
  refine ⟨K + M, fun k hk => ?_⟩
  show (f k).bind (F k) = _
  rw [hK k (by omega)]
  exact hM k (by omega)
theorem Ev.of_eq {α : Type} {f g : Nat → Option α} {r : α} (h : ∀ k, f k = g k) (hg : Ev g r) : Ev f r := by
  obtain ⟨K, hK⟩ := hg
  exact ⟨K, fun k hk => by rw [h]; exact hK k hk⟩
theorem w64n (i : Nat) (h : i ≤ 2147483648) : wrap64 ((i : Int) + 1) = ((i + 1 : Nat) : Int) := by
  rw [IntWalk.wrap64_in _ (by omega)]; omega
theorem w64p (i : Nat) (h0 : 0 < i) (h : i ≤ 2147483648) : wrap64 ((i : Int) - 1) = ((i - 1 : Nat) : Int) := by
  rw [IntWalk.wrap64_in _ (by omega)]; omega
theorem rd_app (A B : List Int) (x : Int) : rd (A ++ x :: B) (A.length : Int) = x := by
  simp [rd, List.getD]
/-! ### The reference's places -/
def placesL (l : List Sp) : List Int := l.flatMap fun s => [s.f0, s.f1 + 1]
def ddA : Int → List Int → List Int
  | _, [] => []
  | p, q :: r => if q = p then ddA q r else q :: ddA q r
theorem ddA_cons (p q : Int) (r : List Int) : ddA p (q :: r) = if q = p then ddA q r else q :: ddA q r := rfl
theorem dedupA_dd : ∀ (p : Int) (r : List Int), dedupA (p :: r) = p :: ddA p r
  | p, [] => rfl
  | p, q :: r => by
    have ih := dedupA_dd q r
    unfold dedupA ddA
    by_cases h : p = q
    · rw [if_pos h, if_pos h.symm, ih, h]
    · rw [if_neg h, if_neg (Ne.symm h), ih]
theorem l3_go (S : List Int) (hS : S.length ≤ 100000) : ∀ (rest pre : List Int) (p : Int) (out : List Int), S = pre ++ p :: rest → out.length ≤ pre.length + 1 → Ev (fun k => portcullisref02_edges.l3 k S out ((pre.length + 1 : Nat) : Int)) (out ++ ddA p rest)
  | [], pre, p, out, e, hl => by
    refine Ev.one fun k => ?_
    simp only [portcullisref02_edges.l3]
    have hlen : S.length = pre.length + 1 := by rw [e]; simp
    rw [if_neg (by omega)]
    simp [ddA]
  | q :: rest, pre, p, out, e, hl => by
    have hlen : S.length = pre.length + 1 + 1 + rest.length := by rw [e]; simp; omega
    have h1 : rd S ((pre.length + 1 : Nat) : Int) = q := by
      have := rd_app (pre ++ [p]) rest q
      rw [show (pre ++ [p]) ++ q :: rest = S by rw [e]; simp, show (pre ++ [p]).length = pre.length + 1 by simp] at this
      exact this
    have h2 : rd S ((pre.length + 1 - 1 : Nat) : Int) = p := by
      have := rd_app pre (q :: rest) p
      rw [← e] at this
      exact this
    have ih := l3_go S hS rest (pre ++ [p]) q
    simp only [List.length_append, List.length_cons, List.length_nil] at ih
    by_cases hq : q = p
    · have ih2 := ih out (by rw [e]; simp) (by omega)
      rw [ddA_cons, if_pos hq]
      refine Ev.step (fun k => ?_) ih2
      simp only [portcullisref02_edges.l3]
      rw [if_pos (by omega), if_neg (by omega), if_pos (by omega), w64p _ (by omega) (by omega), if_pos (by omega), if_pos (by omega), h1, h2, if_pos hq, w64n _ (by omega)]
    · have ih2 := ih (out ++ [q]) (by rw [e]; simp) (by simp; omega)
      rw [ddA_cons, if_neg hq, show out ++ q :: ddA q rest = (out ++ [q]) ++ ddA q rest by simp]
      refine Ev.step (fun k => ?_) ih2
      simp only [portcullisref02_edges.l3]
      rw [if_pos (by omega), if_neg (by omega), if_pos (by omega), w64p _ (by omega) (by omega), if_pos (by omega), if_pos (by omega), h1, h2, if_neg hq, if_pos (by omega), w64n _ (by omega)]
theorem l3_is (S : List Int) (hS : S.length ≤ 100000) (h0 : S ≠ []) : Ev (fun k => portcullisref02_edges.l3 k S [] 0) (dedupA S) := by
  cases S with
  | nil => exact absurd rfl h0
  | cons p rest =>
    have ih := l3_go (p :: rest) hS rest [] p [p] rfl (by simp)
    rw [dedupA_dd]
    refine Ev.step (fun k => ?_) ih
    simp only [portcullisref02_edges.l3]
    rw [if_pos (by simp), if_pos trivial, if_pos (by omega), if_pos (by simp)]
    have : rd (p :: rest) 0 = p := rd_app [] rest p
    have hw : wrap64 (0 + 1) = ((([] : List Int).length + 1 : Nat) : Int) := w64n 0 (by decide)
    rw [this, hw, List.nil_append]
def Sor (l : List Int) : Prop := l.Pairwise (· ≤ ·)
theorem l2_go (r : List Int) (C : List Int) (x : Int) (i : Nat) (hi : i ≤ 100000) : ∀ (n : Nat) (A B : List Int), A.length = n → (A ++ x :: (B ++ C)).length ≤ 100000 → Sor (A ++ B) → (∀ b ∈ B, x < b) →
    ∃ S, S.Perm (A ++ x :: B) ∧ Sor S ∧ (Ev (fun k => portcullisref02_edges.l1 k (S ++ C) ((i + 1 : Nat) : Int)) r → Ev (fun k => portcullisref02_edges.l2 k (A ++ x :: (B ++ C)) (i : Int) (n : Int)) r)
  | 0, A, B, hA, hl, hs, hb => by
    obtain rfl : A = [] := List.length_eq_zero_iff.1 hA
    refine ⟨x :: B, List.Perm.refl _, ?_, fun h => Ev.step (fun k => ?_) h⟩
    · unfold Sor at hs ⊢
      rw [List.pairwise_cons]
      exact ⟨fun b hb' => Int.le_of_lt (hb b hb'), hs⟩
    · simp only [portcullisref02_edges.l2]
      rw [if_neg (by simp), w64n _ (by omega)]
      rfl
  | n + 1, A, B, hA, hl, hs, hb => by
    obtain ⟨A', y, rfl⟩ : ∃ A' y, A = A' ++ [y] := by
      have hne : A ≠ [] := by rintro rfl; simp at hA
      exact ⟨A.dropLast, A.getLast hne, (List.dropLast_concat_getLast hne).symm⟩
    have hA' : A'.length = n := by simpa using hA
    have e1 : (A' ++ [y]) ++ x :: (B ++ C) = A' ++ y :: (x :: (B ++ C)) := by simp
    have hlen : ((A' ++ [y]) ++ x :: (B ++ C)).length = n + 1 + 1 + (B ++ C).length := by simp; omega
    have h1 : rd ((A' ++ [y]) ++ x :: (B ++ C)) ((n + 1 - 1 : Nat) : Int) = y := by
      rw [e1, show n + 1 - 1 = A'.length by omega]; exact rd_app _ _ _
    have h2 : rd ((A' ++ [y]) ++ x :: (B ++ C)) ((n + 1 : Nat) : Int) = x := by
      have := rd_app (A' ++ [y]) (B ++ C) x
      rw [show (A' ++ [y]).length = n + 1 by simp; omega] at this
      exact this
    by_cases hxy : x < y
    · have hs' : Sor (A' ++ y :: B) := by
        have : (A' ++ [y]) ++ B = A' ++ y :: B := by simp
        rw [← this]; exact hs
      have hb' : ∀ b ∈ y :: B, x < b := fun b hb2 => by
        rcases List.mem_cons.1 hb2 with rfl | hb2
        · exact hxy
        · exact hb b hb2
      obtain ⟨S, hp, hss, hev⟩ := l2_go r C x i hi n A' (y :: B) hA' (by simp at hl ⊢; omega) hs' hb'
      refine ⟨S, hp.trans ?_, hss, fun h => Ev.step (fun k => ?_) (hev h)⟩
      · have : (A' ++ [y]) ++ x :: B = A' ++ y :: x :: B := by simp
        rw [this]
        exact List.Perm.append_left _ (List.Perm.swap _ _ _)
      · simp only [portcullisref02_edges.l2]
        have hset : ((((A' ++ [y]) ++ x :: (B ++ C)).set n x).set (n + 1) y) = A' ++ x :: (y :: B ++ C) := by
          rw [e1, List.set_append_right _ _ (by omega), hA', Nat.sub_self, List.set_cons_zero, List.set_append_right _ _ (by omega), hA', show n + 1 - n = 0 + 1 by omega, List.set_cons_succ, List.set_cons_zero]
          rfl
        rw [if_pos (by omega), w64p _ (by omega) (by omega), if_pos (by omega), if_pos (by omega), if_pos (by omega), if_pos (by omega), h1, h2, if_pos hxy, Int.toNat_natCast, Int.toNat_natCast, show n + 1 - 1 = n by omega, hset]
    · refine ⟨(A' ++ [y]) ++ x :: B, List.Perm.refl _, ?_, fun h => Ev.step (fun k => ?_) h⟩
      · unfold Sor at hs ⊢
        rw [List.pairwise_append] at hs ⊢
        obtain ⟨s1, s2, s3⟩ := hs
        refine ⟨s1, ?_, fun a ha b hb2 => ?_⟩
        · rw [List.pairwise_cons]
          exact ⟨fun b hb' => Int.le_of_lt (hb b hb'), s2⟩
        · rcases List.mem_cons.1 hb2 with rfl | hb2
          · rw [List.pairwise_append] at s1
            rcases List.mem_append.1 ha with ha | ha
            · have := s1.2.2 a ha y (by simp); omega
            · rw [List.mem_singleton.1 ha]; omega
          · exact s3 a ha b hb2
      · simp only [portcullisref02_edges.l2]
        rw [if_pos (by omega), w64p _ (by omega) (by omega), if_pos (by omega), if_pos (by omega), if_pos (by omega), if_pos (by omega), h1, h2, if_neg hxy, w64n _ (by omega)]
        simp
theorem l1_go (r : List Int) : ∀ (C S0 : List Int), (S0 ++ C).length ≤ 100000 → Sor S0 → ∃ S, S.Perm (S0 ++ C) ∧ Sor S ∧ (Ev (fun k => portcullisref02_edges.l3 k S [] 0) r → Ev (fun k => portcullisref02_edges.l1 k (S0 ++ C) (S0.length : Int)) r)
  | [], S0, hl, hs => by
    refine ⟨S0, by simp, hs, fun h => Ev.step (fun k => ?_) h⟩
    simp only [portcullisref02_edges.l1]
    rw [if_neg (by simp), List.append_nil]
  | x :: C, S0, hl, hs => by
    have hl0 : (S0 ++ x :: C).length = S0.length + (C.length + 1) := by simp
    obtain ⟨S1, hp1, hs1, hev1⟩ := l2_go r C x S0.length (by omega) S0.length S0 [] rfl (by simpa using hl) (by simpa using hs) (by simp)
    have hlen : S1.length = S0.length + 1 := by have := hp1.length_eq; simpa using this
    obtain ⟨S, hp, hss, hev⟩ := l1_go r C S1 (by simp; omega) hs1
    refine ⟨S, hp.trans ?_, hss, fun h => ?_⟩
    · have : S0 ++ x :: C = (S0 ++ [x]) ++ C := by simp
      rw [this]
      exact List.Perm.append_right _ (by simpa using hp1)
    · have h3 := hev h
      rw [hlen] at h3
      have h4 := hev1 h3
      refine Ev.step (fun k => ?_) h4
      simp only [portcullisref02_edges.l1]
      rw [if_pos (by omega)]
      rfl
end Go.Proofs.YtikhoooiklkbiaaDoor.Pr
