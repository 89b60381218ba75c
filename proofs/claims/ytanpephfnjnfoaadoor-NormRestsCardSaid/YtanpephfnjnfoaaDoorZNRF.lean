import Derived.Test.YtanpephfnjnfoaaDoorZNRE
import Derived.Test.YtanpephfnjnfoaaDoorZNRD
section
namespace Go.Proofs.YtanpephfnjnfoaaDoor.Pr
open Go.RowKit Go.Proofs.YtanpephfnjnfoaaDoorW.PrintWords Go.Proofs.YtanpephfnjnfoaaDoorW.PrintLast Go.Proofs.YtanpephfnjnfoaaDoorW.PrintMore
set_option linter.unusedVariables false
set_option linter.unusedSimpArgs false

theorem Ev.of_mono {α : Type} {f : Nat → Option α} {r : α} (hm : ∀ k, LeO (f k) (f (k + 1))) (K : Nat) (h : f K = some r) : Ev f r := by
  refine ⟨K, fun k hk => ?_⟩
  induction k with
  | zero => obtain rfl : K = 0 := by omega
            exact h
  | succ k ih =>
    by_cases e : K = k + 1
    · rw [← e]; exact h
    · exact hm k _ (ih (by omega))
theorem same_l0 : ∀ (a b pa pb : List Int) (A B : List Int), A = pa ++ a → B = pb ++ b → pa.length = pb.length → a.length = b.length → A.length ≤ 1000000 → Ev (fun k => portcullisref04_Same.l0 k A B (pa.length : Int)) (decide (a = b))
  | [], [], pa, pb, A, B, hA, hB, hl, hab, hn => Ev.one fun k => by
    rw [portcullisref04_Same.l0, if_neg (by rw [hA]; simp)]; rfl
  | x :: a, y :: b, pa, pb, A, B, hA, hB, hl, hab, hn => by
    have hx : rd A (pa.length : Int) = x := by rw [hA]; exact rd_app pa a x
    have hy : rd B (pa.length : Int) = y := by rw [hB, hl]; exact rd_app pb b y
    have hla : A.length = pa.length + (a.length + 1) := by rw [hA]; simp
    have hlb : B.length = pb.length + (b.length + 1) := by rw [hB]; simp
    have hab' : a.length = b.length := by simpa using hab
    have hs : ∀ k, portcullisref04_Same.l0 (k + 1) A B (pa.length : Int) = if x = y then portcullisref04_Same.l0 k A B (((pa ++ [x]).length : Nat) : Int) else some false := fun k => by
      rw [portcullisref04_Same.l0, if_pos (by omega), if_pos (by omega), if_pos (by omega), hx, hy, w64n _ (by omega)]
      simp
    by_cases e : x = y
    · have h1 := same_l0 a b (pa ++ [x]) (pb ++ [y]) A B (by rw [hA]; simp) (by rw [hB]; simp) (by simp [hl]) hab' hn
      have h2 : decide (x :: a = y :: b) = decide (a = b) := by simp [e]
      rw [h2]
      exact Ev.step (fun k => by rw [hs, if_pos e]) h1
    · have h2 : decide (x :: a = y :: b) = false := by simp [e]
      rw [h2]
      exact Ev.one fun k => by rw [hs, if_neg e]
  | [], _ :: _, _, _, _, _, _, _, _, hab, _ => by simp at hab
  | _ :: _, [], _, _, _, _, _, _, _, hab, _ => by simp at hab
theorem same_is (a b : List Int) (h : a.length ≤ 1000000) : Ev (fun k => portcullisref04_Same.f k a b) (decide (a = b)) := by
  by_cases e : a.length = b.length
  · refine Ev.of_eq (fun k => ?_) (same_l0 a b [] [] a b rfl rfl rfl e h)
    unfold portcullisref04_Same.f
    rw [if_pos (by omega)]
    rfl
  · have : decide (a = b) = false := decide_eq_false fun h => e (by rw [h])
    rw [this]
    refine Ev.now fun k => ?_
    unfold portcullisref04_Same.f
    rw [if_neg (by omega)]
theorem equal_l0 : ∀ (a b pa pb : List Int) (A B : List Int), A = pa ++ a → B = pb ++ b → pa.length = pb.length → a.length = b.length → A.length ≤ 1000000 → Ev (fun k => slices_Equal_rune_rune.l0 k A B (A.length : Int) (pa.length : Int)) (decide (a = b))
  | [], [], pa, pb, A, B, hA, hB, hl, hab, hn => Ev.one fun k => by
    rw [slices_Equal_rune_rune.l0, if_neg (by rw [hA]; simp)]; rfl
  | x :: a, y :: b, pa, pb, A, B, hA, hB, hl, hab, hn => by
    have hx : rd A (pa.length : Int) = x := by rw [hA]; exact rd_app pa a x
    have hy : rd B (pa.length : Int) = y := by rw [hB, hl]; exact rd_app pb b y
    have hla : A.length = pa.length + (a.length + 1) := by rw [hA]; simp
    have hlb : B.length = pb.length + (b.length + 1) := by rw [hB]; simp
    have hab' : a.length = b.length := by simpa using hab
    have hs : ∀ k, slices_Equal_rune_rune.l0 (k + 1) A B (A.length : Int) (pa.length : Int) = if x = y then slices_Equal_rune_rune.l0 k A B (A.length : Int) (((pa ++ [x]).length : Nat) : Int) else some false := fun k => by
      rw [slices_Equal_rune_rune.l0, if_pos (by omega), if_pos (by omega), if_pos (by omega), if_pos (by omega), hx, hy, w64n _ (by omega)]
      simp
    by_cases e : x = y
    · have h1 := equal_l0 a b (pa ++ [x]) (pb ++ [y]) A B (by rw [hA]; simp) (by rw [hB]; simp) (by simp [hl]) hab' hn
      have h2 : decide (x :: a = y :: b) = decide (a = b) := by simp [e]
      rw [h2]
      exact Ev.step (fun k => by rw [hs, if_pos e]) h1
    · have h2 : decide (x :: a = y :: b) = false := by simp [e]
      rw [h2]
      exact Ev.one fun k => by rw [hs, if_neg e]
  | [], _ :: _, _, _, _, _, _, _, _, hab, _ => by simp at hab
  | _ :: _, [], _, _, _, _, _, _, _, hab, _ => by simp at hab
theorem equal_is (a b : List Int) (h : a.length ≤ 1000000) : Ev (fun k => slices_Equal_rune_rune.f k a b) (decide (a = b)) := by
  by_cases e : a.length = b.length
  · refine Ev.of_eq (fun k => ?_) (equal_l0 a b [] [] a b rfl rfl rfl e h)
    unfold slices_Equal_rune_rune.f
    rw [if_pos (by omega)]
    rfl
  · have : decide (a = b) = false := decide_eq_false fun h => e (by rw [h])
    rw [this]
    refine Ev.now fun k => ?_
    unfold slices_Equal_rune_rune.f
    rw [if_neg (by omega)]

def outU (done : List Int) (st : Option Int) (seg : List Int) : List Int := done ++ (st.toList ++ seg)
def stU (done : List Int) : Option Int → Int
  | none => -1
  | some _ => (done.length : Int)
theorem nfc_l0 : ∀ (rest done : List Int) (st : Option Int) (seg : List Int) (last : Int) (pre d : List Int), d = pre ++ rest → d.length ≤ 1000000 → (outU done st seg).length ≤ pre.length →
    Ev (fun k => norm_NFC.l0 k (outU done st seg) (stU done st) last d (d.length : Int) (pre.length : Int)) (cpsU rest done st seg last)
  | [], done, st, seg, last, pre, d, hd, hn, ho => by
    have e : cpsU [] done st seg last = outU done st seg := by cases st <;> simp [cpsU, outU]
    rw [e]
    exact Ev.one fun k => by rw [norm_NFC.l0, if_neg (by rw [hd]; simp)]
  | r :: t, done, st, seg, last, pre, d, hd, hn, ho => by
    have hr : rd d (pre.length : Int) = r := by rw [hd]; exact rd_app pre t r
    have hl : d.length = pre.length + (t.length + 1) := by rw [hd]; simp
    have hw : wrap64 ((pre.length : Int) + 1) = (((pre ++ [r]).length : Nat) : Int) := by rw [w64n _ (by omega)]; simp
    have IH := fun done' st' seg' last' h => nfc_l0 t done' st' seg' last' (pre ++ [r]) d (by rw [hd]; simp) hn h
    -- what is pushed
    have push : ∀ b : Bool, (b = true → ∃ s, st = some s ∧ (prU s r).2 = false) → Ev (fun k => norm_NFC.j1 k (outU done st seg) (stU done st) last r (clsU r) d (d.length : Int) (pre.length : Int) b)
        (if clsU r = 0 then cpsU t (outU done st seg) (some r) [] 0 else cpsU t done st (seg ++ [r]) (clsU r)) := fun b hb => by
      have ho2 : (outU done st seg ++ [r]) = outU done st (seg ++ [r]) := by simp [outU]
      have hs : ∀ k, norm_NFC.j1 (k + 1) (outU done st seg) (stU done st) last r (clsU r) d (d.length : Int) (pre.length : Int) b =
          if clsU r = 0 then norm_NFC.l0 k (outU (outU done st seg) (some r) []) (stU (outU done st seg) (some r)) 0 d (d.length : Int) (((pre ++ [r]).length : Nat) : Int)
          else norm_NFC.l0 k (outU done st (seg ++ [r])) (stU done st) (clsU r) d (d.length : Int) (((pre ++ [r]).length : Nat) : Int) := fun k => by
        have ho3 : outU (outU done st seg) (some r) [] = outU done st seg ++ [r] := by simp [outU]
        rw [norm_NFC.j1, hw, ho3, ← ho2]
        have tail : (if clsU r = 0 then (if (outU done st seg).length < 35184372088832 then norm_NFC.l0 k (outU done st seg ++ [r]) ((outU done st seg).length : Int) (clsU r) d (d.length : Int) (((pre ++ [r]).length : Nat) : Int) else none) else (if (outU done st seg).length < 35184372088832 then norm_NFC.l0 k (outU done st seg ++ [r]) (stU done st) (clsU r) d (d.length : Int) (((pre ++ [r]).length : Nat) : Int) else none))
            = if clsU r = 0 then norm_NFC.l0 k (outU done st seg ++ [r]) (stU (outU done st seg) (some r)) 0 d (d.length : Int) (((pre ++ [r]).length : Nat) : Int) else norm_NFC.l0 k (outU done st seg ++ [r]) (stU done st) (clsU r) d (d.length : Int) (((pre ++ [r]).length : Nat) : Int) := by
          by_cases hz : clsU r = 0
          · rw [if_pos hz, if_pos (by omega), if_pos hz, hz]; rfl
          · rw [if_neg hz, if_pos (by omega), if_neg hz]
        cases b with
        | false => rw [if_neg (by decide)]; exact tail
        | true =>
          obtain ⟨s, rfl, hp⟩ := hb rfl
          have hrd : rd (outU done (some s) seg) (stU done (some s)) = s := by
            show rd (done ++ s :: seg) (done.length : Int) = s
            exact rd_app done seg s
          have hst : stU done (some s) = (done.length : Int) := rfl
          rw [if_pos rfl, if_pos (by rw [hst]; omega), if_pos (by rw [hst]; simp [outU]; omega), hrd, prU_f, Option.bind_some, if_neg (by rw [hp]; decide)]
          exact tail
      by_cases hz : clsU r = 0
      · rw [if_pos hz]
        exact Ev.step (fun k => by rw [hs, if_pos hz]) (IH _ _ _ _ (by simp [outU] at ho ⊢; omega))
      · rw [if_neg hz]
        exact Ev.step (fun k => by rw [hs, if_neg hz]) (IH _ _ _ _ (by simp [outU] at ho ⊢; omega))
    cases st with
    | none =>
      have hs : ∀ k, norm_NFC.l0 (k + 1) (outU done none seg) (stU done none) last d (d.length : Int) (pre.length : Int) = norm_NFC.j1 k (outU done none seg) (stU done none) last r (clsU r) d (d.length : Int) (pre.length : Int) false := fun k => by
        rw [norm_NFC.l0, if_pos (by omega), if_pos (by omega), if_pos (by omega), hr, clsU_f, Option.bind_some, if_neg (by show ¬ ((-1 : Int) ≥ 0); decide)]
      have e : cpsU (r :: t) done none seg last = if clsU r = 0 then cpsU t (outU done none seg) (some r) [] 0 else cpsU t done none (seg ++ [r]) (clsU r) := by rw [cpsU]; rfl
      rw [e]
      exact Ev.step hs (push false (fun h => by cases h))
    | some s =>
      have hlo : (outU done (some s) seg).length = done.length + (seg.length + 1) := by simp [outU]
      have hs : ∀ k, norm_NFC.l0 (k + 1) (outU done (some s) seg) (stU done (some s)) last d (d.length : Int) (pre.length : Int) = norm_NFC.j1 k (outU done (some s) seg) (stU done (some s)) last r (clsU r) d (d.length : Int) (pre.length : Int) (decide (seg = [] ∨ (last ≠ 0 ∧ last < clsU r))) := fun k => by
        rw [norm_NFC.l0, if_pos (by omega), if_pos (by omega), if_pos (by omega), hr, clsU_f, Option.bind_some, if_pos (by show ((done.length : Int) ≥ 0); omega)]
        have hwl : wrap64 (((outU done (some s) seg).length : Int) - 1) = ((done.length + seg.length : Nat) : Int) := by rw [w64p _ (by omega) (by omega)]; omega
        rw [hwl]
        by_cases hseg : seg = []
        · rw [if_pos (by subst hseg; show ((done.length + 0 : Nat) : Int) = (done.length : Int); omega)]
          have : decide (seg = [] ∨ (last ≠ 0 ∧ last < clsU r)) = true := decide_eq_true (.inl hseg)
          rw [this]
        · have hpos := List.length_pos_iff.2 hseg
          rw [if_neg (by show ¬ ((done.length + seg.length : Nat) : Int) = (done.length : Int); omega)]
          by_cases h0 : last = 0
          · rw [if_pos h0]
            have : decide (seg = [] ∨ (last ≠ 0 ∧ last < clsU r)) = false := decide_eq_false (by rintro (h | h); exact hseg h; exact h.1 h0)
            rw [this]
          · rw [if_neg h0]
            have : decide (seg = [] ∨ (last ≠ 0 ∧ last < clsU r)) = decide (last < clsU r) := decide_eq_decide.2 ⟨fun h => (h.resolve_left hseg).2, fun h => .inr ⟨h0, h⟩⟩
            rw [this]
      by_cases hc : (seg = [] ∨ (last ≠ 0 ∧ last < clsU r)) ∧ (prU s r).2 = true
      · have e : cpsU (r :: t) done (some s) seg last = cpsU t done (some (prU s r).1) seg last := by rw [cpsU, if_pos hc]
        rw [e]
        refine Ev.step hs ?_
        rw [decide_eq_true hc.1]
        refine Ev.step (fun k => ?_) (IH done (some (prU s r).1) seg last (by simp [outU] at ho ⊢; omega))
        have hrd : rd (outU done (some s) seg) (stU done (some s)) = s := by
          show rd (done ++ s :: seg) (done.length : Int) = s
          exact rd_app done seg s
        have hst : stU done (some s) = (done.length : Int) := rfl
        rw [norm_NFC.j1, hw, if_pos rfl, if_pos (by rw [hst]; omega), if_pos (by rw [hst]; omega), hrd, prU_f, Option.bind_some, if_pos hc.2]
        have hset : (outU done (some s) seg).set (stU done (some s)).toNat (prU s r).1 = outU done (some (prU s r).1) seg := by
          rw [hst, Int.toNat_natCast]
          show (done ++ s :: seg).set done.length _ = done ++ (prU s r).1 :: seg
          rw [List.set_append_right _ _ (Nat.le_refl _), Nat.sub_self, List.set_cons_zero]
        rw [hset]
        rfl
      · have e : cpsU (r :: t) done (some s) seg last = if clsU r = 0 then cpsU t (outU done (some s) seg) (some r) [] 0 else cpsU t done (some s) (seg ++ [r]) (clsU r) := by rw [cpsU, if_neg hc]; rfl
        rw [e]
        refine Ev.step hs (push _ (fun hb => ⟨s, rfl, ?_⟩))
        have hb' := of_decide_eq_true hb
        exact Bool.eq_false_iff.2 fun h => hc ⟨hb', h⟩
theorem nfd_is (l : List Int) (hl : l.length ≤ 60000) : norm_NFD.f l = some (nfdU l) := by unfold norm_NFD.f; rw [if_pos hl]; rfl
theorem nfc_is (l : List Int) (hl : l.length ≤ 60000) : Ev (fun k => norm_NFC.f k l) (nfcU l) := by
  have h := nfc_l0 (nfdU l) [] none [] 0 [] (nfdU l) rfl (by have := nfd_len l; omega) (by simp [outU])
  refine Ev.of_eq (fun k => ?_) h
  unfold norm_NFC.f
  rw [nfd_is l hl, Option.bind_some]
  rfl
theorem is_is (l : List Int) (hl : l.length ≤ 60000) : Ev (fun k => norm_Is.f k l) (decide (nfcU l = l)) := by
  have h1 := nfc_is l hl
  have h2 := equal_is (nfcU l) l (by have := nfc_len l; have := nfd_len l; omega)
  refine Ev.of_eq (fun k => ?_) (Ev.bind (F := fun k x => slices_Equal_rune_rune.f k x l) h1 h2)
  unfold norm_Is.f
  cases norm_NFC.f k l with
  | none => rfl
  | some x =>
    show (slices_Equal_rune_rune.f k x l).bind _ = slices_Equal_rune_rune.f k x l
    cases slices_Equal_rune_rune.f k x l <;> rfl
theorem copied_is (l : List Int) (hl : l.length ≤ 1000000) : portcullislaw04_copied.f l = some l := by unfold portcullislaw04_copied.f; rw [if_pos hl]
set_option maxRecDepth 100000 in
theorem works_is : Ev (fun k => portcullislaw04_works.f k) true := Ev.of_mono (fun k => portcullislaw04_works.mono k) 60 (by kernel_rfl)
end Go.Proofs.YtanpephfnjnfoaaDoor.Pr
end

section
namespace Go.Proofs.YtanpephfnjnfoaaDoor.Pure
open Go.RowKit Go.Proofs.YtanpephfnjnfoaaDoor.Pr Go.Proofs.YtanpephfnjnfoaaDoorW.PrintWords Go.Proofs.YtanpephfnjnfoaaDoorW.PrintLast Go.Proofs.YtanpephfnjnfoaaDoorW.PrintMore
set_option linter.unusedVariables false
set_option linter.unusedSimpArgs false

theorem NormRests : portcullislaw04_NormRests.Pure := by
  intro l hm hl hw
  obtain ⟨K0, h0⟩ := works_is
  by_cases c1 : (l.length : Int) > 300
  · refine ⟨K0, ?_⟩
    have e := h0 K0 (Nat.le_refl _)
    simp only at e
    unfold portcullislaw04_NormRests.f
    rw [if_pos c1, e]
    rfl
  · have hlen : l.length ≤ 300 := by omega
    have l1 := nfd_len l
    have l2 := nfc_len l
    obtain ⟨K1, h1⟩ := nfc_is l (by omega)
    obtain ⟨K2, h2⟩ := nfc_is (nfcU l) (by omega)
    obtain ⟨K3, h3⟩ := nfc_is (nfdU l) (by omega)
    obtain ⟨K4, h4⟩ := same_is (nfcU l) (nfcU l) (by omega)
    obtain ⟨K5, h5⟩ := same_is (nfdU l) (nfdU l) (by omega)
    obtain ⟨K6, h6⟩ := is_is (nfcU l) (by omega)
    have n1 := nfd_is l (by omega)
    have n2 := nfd_is (nfcU l) (by omega)
    have n3 := nfd_is (nfdU l) (by omega)
    have p1 := copied_is l (by omega)
    have p2 := copied_is (nfcU l) (by omega)
    have p3 := copied_is (nfdU l) (by omega)
    refine ⟨K0 + K1 + K2 + K3 + K4 + K5 + K6, ?_⟩
    have e0 := h0 (K0 + K1 + K2 + K3 + K4 + K5 + K6) (by omega)
    have e1 := h1 (K0 + K1 + K2 + K3 + K4 + K5 + K6) (by omega)
    have e2 := h2 (K0 + K1 + K2 + K3 + K4 + K5 + K6) (by omega)
    have e3 := h3 (K0 + K1 + K2 + K3 + K4 + K5 + K6) (by omega)
    have e4 := h4 (K0 + K1 + K2 + K3 + K4 + K5 + K6) (by omega)
    have e5 := h5 (K0 + K1 + K2 + K3 + K4 + K5 + K6) (by omega)
    have e6 := h6 (K0 + K1 + K2 + K3 + K4 + K5 + K6) (by omega)
    generalize K0 + K1 + K2 + K3 + K4 + K5 + K6 = k at *
    simp only at e0 e1 e2 e3 e4 e5 e6
    rw [nfc_nfc] at e2 e6
    rw [nfc_nfd] at e3
    rw [nfd_nfc] at n2
    rw [nfd_nfd] at n3
    simp only [decide_true] at e4 e5 e6
    generalize nfcU l = c at *
    generalize nfdU l = d at *
    have hcd : (c.length : Int) ≤ (d.length : Int) := by omega
    unfold portcullislaw04_NormRests.f
    simp only [if_neg c1, p1, p2, p3, e0, e1, e2, e3, e4, e5, e6, n1, n2, n3, Option.bind_some, if_true, if_pos hcd]
end Go.Proofs.YtanpephfnjnfoaaDoor.Pure
end
