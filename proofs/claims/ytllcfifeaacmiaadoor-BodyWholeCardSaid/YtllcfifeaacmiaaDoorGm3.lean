import Derived.Test.YtllcfifeaacmiaaDoorGs4
import Derived.Test.YtllcfifeaacmiaaDoorRnw
namespace Go.Proofs.YtllcfifeaacmiaaDoor.Pr
open Go.RowKit Go.Proofs.YtllcfifeaacmiaaDoorW.PrintWords Go.Proofs.YtllcfifeaacmiaaDoorW.PrintLast Go.Proofs.YtllcfifeaacmiaaDoorW.PrintMore
set_option linter.unusedVariables false
set_option linter.unusedSimpArgs false

/-! ### The reader's machine and the reference's answer -/
theorem tail_is (s : List UInt8) (hl : s.length ≤ 80000) : Ev (fun k => portcullisref20_tail.f k (mkB s)) (castT 0 (tlG 0 [] s)) := tail_go s [] [] 0 hl (by omega)
def PhB : Ph → Prop
  | .dg i n => n < 16 ^ i ∧ i ≤ 8
  | .ex n => n < 4294967296
  | .sz n => n < 4294967296
def StB : St1 → Prop
  | .bad => True
  | .go p => PhB p
  | .done n => n < 4294967296
theorem PhB.le {i n : Nat} (h : n < 16 ^ i ∧ i ≤ 8) : n < 4294967296 := Nat.lt_of_lt_of_le h.1 (Nat.pow_le_pow_right (by decide) h.2)
theorem stepPh_B (p : Ph) (c : UInt8) (h : PhB p) : StB (stepPh p c) := by
  cases p with
  | dg i n =>
    cases hv : hexD c with
    | some v =>
      rw [st_dg_some hv]
      split
      · trivial
      · exact ⟨by have := hexD_lt hv; have := h.1; rw [Nat.pow_succ]; omega, by omega⟩
    | none =>
      rw [st_dg_none hv]
      split
      · trivial
      · split
        · exact PhB.le h
        · split
          · exact PhB.le h
          · trivial
  | ex n =>
    unfold stepPh
    simp only
    split
    · exact h
    · split
      · exact h
      · trivial
  | sz n =>
    unfold stepPh
    simp only
    split
    · exact h
    · trivial
theorem szM_le : ∀ (s : List UInt8) (p : Ph) (l : Nat), PhB p → (szM p l s).2.2.1 ≤ l + s.length ∧ (szM p l s).2.1 ≤ 4294967296
  | [], p, l, h => ⟨Nat.le_refl _, Nat.zero_le _⟩
  | c :: r, p, l, h => by
    unfold szM
    split
    · exact ⟨by simp, Nat.zero_le _⟩
    · have hb := stepPh_B p c h
      cases hs : stepPh p c with
      | bad => exact ⟨by simp, Nat.zero_le _⟩
      | go p' =>
        rw [hs] at hb
        have := szM_le r p' (l + 1) hb
        simp only [List.length_cons]
        exact ⟨by omega, this.2⟩
      | done n =>
        rw [hs] at hb
        have hb : n < 4294967296 := hb
        simp only [List.length_cons]
        exact ⟨by omega, by omega⟩
theorem tlG_le : ∀ (s T : List UInt8) (f : Nat), (tlG f T s).1 ≤ s.length
  | [], T, f => Nat.le_refl _
  | c :: r, T, f => by
    have h1 := tlG_le r (T ++ [c]) f
    have h2 := tlG_le r [] (f + 1)
    unfold tlG
    simp only [List.length_cons]
    repeat' split
    all_goals (simp only; omega)
theorem below_drewN {w : World} (nd : Nat) : Below w.heap.size w (w.drewN nd) := by apply pw_below_drewN; exact Below.refl _ _
def ZZ : SzT where
  sz := szM (.dg 0 0) 0
  tl := tlG 0 []
  sz_is := fun t W hl => by
    obtain ⟨K, hK⟩ := size_is t (by omega)
    refine (portcullisref20_size.calls K (mkB t) _ _ _ _ W (hK K (Nat.le_refl _))).mono ?_
    rintro e W' ⟨rfl, ⟨nd, rfl⟩⟩
    exact ⟨rfl, below_drewN nd⟩
  tl_is := fun t W hl => by
    obtain ⟨K, hK⟩ := tail_is t hl
    refine (portcullisref20_tail.calls K (mkB t) _ _ _ W (hK K (Nat.le_refl _))).mono ?_
    rintro e W' ⟨rfl, hb⟩
    refine ⟨?_, hb⟩
    show Ending.returned (.tuple #[.int .i64 ((0 + (tlG 0 [] t).1 : Nat) : Int), _, _]) = _
    rw [Nat.zero_add]
  sz_le := fun t hl => by
    have := szM_le t (.dg 0 0) 0 ⟨by decide, by decide⟩
    rw [Nat.zero_add] at this
    exact this
  tl_le := fun t hl => tlG_le t [] 0
/-! ### The line with a size -/
structure Same (R R' : Rm) : Prop where
  data : R'.data = R.data
  total : R'.total = R.total
  text : R'.text = R.text
  fields : R'.fields = R.fields
  over : R'.over = R.over
  made : R'.made = R.made
theorem Same.refl (R : Rm) : Same R R := ⟨rfl, rfl, rfl, rfl, rfl, rfl⟩
theorem Same.trans {R R1 R2 : Rm} (h : Same R R1) (k : Same R1 R2) : Same R R2 := ⟨k.data.trans h.data, k.total.trans h.total, k.text.trans h.text, k.fields.trans h.fields, k.over.trans h.over, k.made.trans h.made⟩
structure RelPh (R : Rm) (p : Ph) (l : Nat) : Prop where
  line : R.line = (l : Int)
  fault : R.fault = 0
  ph : match p with
    | .dg i n => R.st = .digit ∧ R.digits = (i : Int) ∧ R.left = (n : Int)
    | .ex n => R.st = .extra ∧ R.left = (n : Int)
    | .sz n => R.st = .sized ∧ R.left = (n : Int)
theorem RelPh.go {R : Rm} {p : Ph} {l : Nat} (h : RelPh R p l) : isNone R.st = false := by
  have := h.ph
  cases p with
  | dg i n => rw [this.1]; rfl
  | ex n => rw [this.1]; rfl
  | sz n => rw [this.1]; rfl
theorem RelPh.cnt {R : Rm} {p : Ph} {l : Nat} (h : RelPh R p l) (hl : l ≤ 100000) (c : UInt8) : cntOk R c = !decide (c ≠ 10 ∧ 4097 < l + 1) := by
  have hw : wrap64 (R.line + 1) = ((l + 1 : Nat) : Int) := by rw [h.line]; exact w64n l (by omega)
  unfold cntOk
  rw [hw]
  by_cases hc : c = 10
  · subst hc; simp
  · have e : ((c.toNat : Int) == 10) = false := beq_eq_false_iff_ne.2 (u8ne 10 rfl hc)
    rw [e, Bool.false_or]
    by_cases h4 : 4097 < l + 1
    · rw [decide_eq_false (by omega), decide_eq_true ⟨hc, h4⟩]; rfl
    · rw [decide_eq_true (by omega), decide_eq_false (fun e => h4 e.2)]; rfl
theorem RelPh.cntL {R : Rm} {p : Ph} {l : Nat} (h : RelPh R p l) (hl : l ≤ 100000) : wrap64 (R.line + 1) = ((l + 1 : Nat) : Int) := by rw [h.line]; exact w64n l (by omega)
/-- What a step of the line's states does. -/
structure BadP (R R' : Rm) (e : Int) : Prop where
  st : R'.st = .none
  fault : R'.fault = e
  same : Same R R'
def szd (R : Rm) (n : Nat) : Rm := { R with line := 0, digits := 0, sum := wrap64 (R.sum + (n : Int)), left := (n : Int), st := if 16777216 < wrap64 (R.sum + (n : Int)) then .none else if n = 0 then .trailer else .chunk, fault := if 16777216 < wrap64 (R.sum + (n : Int)) then 4 else 0 }
def StepT (R : Rm) (l : Nat) (R' : Rm) : St1 → Prop
  | .bad => BadP R R' 200
  | .go p' => RelPh R' p' (l + 1) ∧ Same R R' ∧ R'.sum = R.sum
  | .done n => R' = szd R n
theorem dg_step (R : Rm) (i n l : Nat) (c : UInt8) (h : RelPh R (.dg i n) l) (hB : n < 16 ^ i ∧ i ≤ 8) (hl : l ≤ 100000) (hc : cntOk R c = true) : StepT R l (nextR R c) (stepPh (.dg i n) c) := by
  obtain ⟨h1, h2, h3⟩ := h.ph
  have hn := PhB.le hB
  have hL := h.cntL hl
  unfold nextR stepR
  rw [h1]
  simp only
  unfold stepD
  rw [if_neg (by rw [hc]; decide)]
  cases hv : hexD c with
  | some v =>
    have hv16 := hexD_lt hv
    rw [st_dg_some hv, valI_some hv]
    by_cases h8 : 8 ≤ i
    · rw [if_pos h8, if_neg (by rw [h2]; omega), if_pos (.inl (by omega))]
      exact ⟨rfl, rfl, ⟨rfl, rfl, rfl, rfl, rfl, rfl⟩⟩
    · rw [if_neg h8, if_pos ⟨by omega, by rw [h2]; omega⟩]
      have e1 : wrap64 (R.digits + 1) = ((i + 1 : Nat) : Int) := by rw [h2]; exact w64n i (by omega)
      have e2 : wrap64 (wrap64 (16 * R.left) + (v : Int)) = ((n * 16 + v : Nat) : Int) := by
        rw [h3, show (16 : Int) * (n : Int) = ((n * 16 : Nat) : Int) by omega, w64c _ (by omega), show ((n * 16 : Nat) : Int) + (v : Int) = ((n * 16 + v : Nat) : Int) by omega]
        exact w64c _ (by omega)
      refine ⟨⟨?_, rfl, rfl, ?_, ?_⟩, ⟨rfl, rfl, rfl, rfl, rfl, rfl⟩, rfl⟩
      · exact hL
      · exact e1
      · exact e2
  | none =>
    rw [st_dg_none hv, valI_none hv]
    have hn16 : ¬ ((16 : Int) < 16 ∧ R.digits < 8) := by omega
    rw [if_neg hn16]
    by_cases h0 : i = 0
    · rw [if_pos h0, if_pos (.inr (by rw [h2, h0]; rfl))]
      exact ⟨rfl, rfl, ⟨rfl, rfl, rfl, rfl, rfl, rfl⟩⟩
    · have hnd : ¬ ((16 : Int) < 16 ∨ R.digits = 0) := by rw [h2]; omega
      rw [if_neg h0, if_neg hnd]
      by_cases h59 : c = 59
      · rw [if_pos h59, if_pos (by rw [h59]; rfl)]
        exact ⟨⟨hL, rfl, rfl, h3⟩, ⟨rfl, rfl, rfl, rfl, rfl, rfl⟩, rfl⟩
      · rw [if_neg h59, if_neg (u8ne 59 rfl h59)]
        by_cases h13 : c = 13
        · rw [if_pos h13, if_pos (by rw [h13]; rfl)]
          exact ⟨⟨hL, rfl, rfl, h3⟩, ⟨rfl, rfl, rfl, rfl, rfl, rfl⟩, rfl⟩
        · rw [if_neg h13, if_neg (u8ne 13 rfl h13)]
          exact ⟨rfl, rfl, ⟨rfl, rfl, rfl, rfl, rfl, rfl⟩⟩
theorem ex_step (R : Rm) (n l : Nat) (c : UInt8) (h : RelPh R (.ex n) l) (hl : l ≤ 100000) (hc : cntOk R c = true) : StepT R l (nextR R c) (stepPh (.ex n) c) := by
  obtain ⟨h1, h3⟩ := h.ph
  have hL := h.cntL hl
  unfold nextR stepR
  rw [h1]
  simp only
  unfold stepX stepPh
  rw [if_neg (by rw [hc]; decide)]
  simp only
  by_cases h13 : c = 13
  · rw [if_pos h13, if_pos (by rw [h13]; rfl)]
    exact ⟨⟨hL, rfl, rfl, h3⟩, ⟨rfl, rfl, rfl, rfl, rfl, rfl⟩, rfl⟩
  · rw [if_neg h13, if_neg (u8ne 13 rfl h13)]
    by_cases hx : extOk c = true
    · have hx' := hx
      unfold extOk at hx'
      simp only [Bool.and_eq_true, Bool.or_eq_true, decide_eq_true_eq, Bool.not_eq_true', decide_eq_false_iff_not] at hx'
      rw [if_pos hx, if_neg (by omega)]
      exact ⟨⟨hL, rfl, rfl, h3⟩, ⟨rfl, rfl, rfl, rfl, rfl, rfl⟩, rfl⟩
    · have hx' := hx
      unfold extOk at hx'
      simp only [Bool.and_eq_true, Bool.or_eq_true, decide_eq_true_eq, Bool.not_eq_true', decide_eq_false_iff_not] at hx'
      rw [if_neg hx, if_pos (by omega)]
      exact ⟨rfl, rfl, ⟨rfl, rfl, rfl, rfl, rfl, rfl⟩⟩
theorem sz_step (R : Rm) (n l : Nat) (c : UInt8) (h : RelPh R (.sz n) l) (hl : l ≤ 100000) (hc : cntOk R c = true) : StepT R l (nextR R c) (stepPh (.sz n) c) := by
  obtain ⟨h1, h3⟩ := h.ph
  have hL := h.cntL hl
  unfold nextR stepR
  rw [h1]
  simp only
  unfold stepZ stepPh
  rw [if_neg (by rw [hc]; decide)]
  simp only
  by_cases h10 : c = 10
  · rw [if_pos h10, if_neg (by rw [h10]; exact fun e => e rfl)]
    show _ = szd R n
    unfold sizR szd
    rw [h3]
    by_cases hs : 16777216 < wrap64 (R.sum + (n : Int))
    · simp only [if_pos hs]
    · simp only [if_neg hs]
      by_cases h0 : n = 0
      · subst h0
        simp only [if_true]
        rfl
      · simp only [if_neg h0, if_neg (show ¬ (n : Int) = 0 by omega)]
  · rw [if_neg h10, if_pos (u8ne 10 rfl h10)]
    exact ⟨rfl, rfl, ⟨rfl, rfl, rfl, rfl, rfl, rfl⟩⟩
theorem ph_step (R : Rm) (p : Ph) (l : Nat) (c : UInt8) (h : RelPh R p l) (hB : PhB p) (hl : l ≤ 100000) (hc : cntOk R c = true) : StepT R l (nextR R c) (stepPh p c) := by
  cases p with
  | dg i n => exact dg_step R i n l c h hB hl hc
  | ex n => exact ex_step R n l c h hl hc
  | sz n => exact sz_step R n l c h hl hc
theorem ph_many (R : Rm) (p : Ph) (l : Nat) (c : UInt8) (h : RelPh R p l) (hc : cntOk R c = false) : BadP R (nextR R c) 195 := by
  have hp := h.ph
  unfold nextR stepR
  cases p with
  | dg i n => rw [hp.1]; simp only; unfold stepD; rw [if_pos hc]; exact ⟨rfl, rfl, ⟨rfl, rfl, rfl, rfl, rfl, rfl⟩⟩
  | ex n => rw [hp.1]; simp only; unfold stepX; rw [if_pos hc]; exact ⟨rfl, rfl, ⟨rfl, rfl, rfl, rfl, rfl, rfl⟩⟩
  | sz n => rw [hp.1]; simp only; unfold stepZ; rw [if_pos hc]; exact ⟨rfl, rfl, ⟨rfl, rfl, rfl, rfl, rfl, rfl⟩⟩
/-- A line with a size, fed. -/
def LineP (R : Rm) (l : Nat) (s : List UInt8) (z : Nat × Nat × Nat × Int) : Prop :=
  (z.2.2.2 ≠ 0 ∧ l < z.2.2.1 ∧ ∃ R', feedL R s = (R', z.2.2.1 - l) ∧ BadP R R' z.2.2.2) ∨
  (z.2.2.2 = 0 ∧ z.1 = 0 ∧ z.2.2.1 = l + s.length ∧ ∃ R' p' , feedL R s = (R', s.length) ∧ RelPh R' p' (l + s.length) ∧ Same R R') ∨
  (z.2.2.2 = 0 ∧ z.1 ≠ 0 ∧ l < z.2.2.1 ∧ z.2.2.1 ≤ l + s.length ∧ ∃ R1, Same R R1 ∧ R1.sum = R.sum ∧ feedL R s = ((feedL (szd R1 z.2.1) (s.drop (z.2.2.1 - l))).1, (feedL (szd R1 z.2.1) (s.drop (z.2.2.1 - l))).2 + (z.2.2.1 - l)))
theorem bad_feed {R R' : Rm} {e : Int} (h : BadP R R' e) (s : List UInt8) : feedL R' s = (R', 0) := feedL_halt (.inl (by rw [h.st]; rfl))
theorem line_feed : ∀ (s : List UInt8) (R : Rm) (p : Ph) (l : Nat), RelPh R p l → PhB p → l + s.length ≤ 100000 → LineP R l s (szM p l s)
  | [], R, p, l, h, hB, hl => .inr (.inl ⟨rfl, rfl, rfl, R, p, rfl, h, Same.refl R⟩)
  | c :: r, R, p, l, h, hB, hl => by
    have hlr : l + r.length + 1 ≤ 100000 := by simp at hl; omega
    have hcnt := h.cnt (by omega) c
    have hfs := feedL_step (c := c) (s := r) h.go h.fault
    unfold szM
    by_cases hm : c ≠ 10 ∧ 4097 < l + 1
    · rw [if_pos hm]
      rw [decide_eq_true hm] at hcnt
      have hb := ph_many R p l c h hcnt
      refine .inl ⟨show (195 : Int) ≠ 0 from by decide, Nat.lt_succ_self l, nextR R c, ?_, hb⟩
      rw [hfs, bad_feed hb]
      simp
    · rw [if_neg hm]
      rw [decide_eq_false hm] at hcnt
      have hst := ph_step R p l c h hB (by omega) hcnt
      have hbb := stepPh_B p c hB
      cases hs : stepPh p c with
      | bad =>
        rw [hs] at hst
        have hb : BadP R (nextR R c) 200 := hst
        refine .inl ⟨show (200 : Int) ≠ 0 from by decide, Nat.lt_succ_self l, nextR R c, ?_, hb⟩
        rw [hfs, bad_feed hb]
        simp
      | go p' =>
        rw [hs] at hst hbb
        obtain ⟨hr, hsm, hsum⟩ := hst
        have ih := line_feed r (nextR R c) p' (l + 1) hr hbb (by omega)
        simp only
        rcases ih with ⟨q1, q2, R', q3, q4⟩ | ⟨q1, q2, q3, R', p2, q4, q5, q6⟩ | ⟨q1, q2, q3, q4, R1, q5, q6, q7⟩
        · refine .inl ⟨q1, by omega, R', ?_, ⟨q4.st, q4.fault, hsm.trans q4.same⟩⟩
          rw [hfs, q3]
          simp only [Prod.mk.injEq, true_and]
          omega
        · refine .inr (.inl ⟨q1, q2, by rw [q3, List.length_cons]; omega, R', p2, ?_, ?_, hsm.trans q6⟩)
          · rw [hfs, q4]; rfl
          · rw [List.length_cons, show l + (r.length + 1) = l + 1 + r.length by omega]; exact q5
        · refine .inr (.inr ⟨q1, q2, by omega, by rw [List.length_cons]; omega, R1, hsm.trans q5, q6.trans hsum, ?_⟩)
          have hd : (c :: r).drop ((szM p' (l + 1) r).2.2.1 - l) = r.drop ((szM p' (l + 1) r).2.2.1 - (l + 1)) := by
            rw [show (szM p' (l + 1) r).2.2.1 - l = ((szM p' (l + 1) r).2.2.1 - (l + 1)) + 1 by omega]
            rfl
          rw [hd, hfs, q7]
          simp only [Prod.mk.injEq, true_and]
          omega
      | done n =>
        rw [hs] at hst
        have hst : nextR R c = szd R n := hst
        simp only
        refine .inr (.inr ⟨rfl, Nat.succ_ne_zero l, Nat.lt_succ_self l, show l + 1 ≤ l + (c :: r).length by rw [List.length_cons]; omega, R, Same.refl R, rfl, ?_⟩)
        rw [hfs, hst]
        simp
end Go.Proofs.YtllcfifeaacmiaaDoor.Pr
namespace Go.Proofs.YtllcfifeaacmiaaDoor.Pr
open Go.RowKit Go.Proofs.YtllcfifeaacmiaaDoorW.PrintWords Go.Proofs.YtllcfifeaacmiaaDoorW.PrintLast Go.Proofs.YtllcfifeaacmiaaDoorW.PrintMore
set_option linter.unusedVariables false
set_option linter.unusedSimpArgs false

/-! ### Chunks -/
def ck (R : Rm) (D : List UInt8) (k t : Nat) (st : Stt) : Rm := { R with st := st, left := (k : Int), data := D, total := (t : Int) }
def sOf (b : Bool) : Stt := if b then .plain else .chunk
def eOf (b : Bool) : Stt := if b then .none else .m13
theorem ck_next (R : Rm) (D : List UInt8) (k t : Nat) (b : Bool) (c : UInt8) (hf : R.fault = 0) (hk : 0 < k) (hk2 : k ≤ 4294967296) (ht : t ≤ 1000000) : nextR (ck R D k t (sOf b)) c = ck R (D ++ [c]) (k - 1) (t + 1) (if k = 1 then eOf b else sOf b) := by
  have e1 : wrap64 ((k : Int) - 1) = ((k - 1 : Nat) : Int) := by rw [show (k : Int) - 1 = ((k - 1 : Nat) : Int) by omega]; exact w64c _ (by omega)
  have e2 : wrap64 ((t : Int) + 1) = ((t + 1 : Nat) : Int) := w64n t (by omega)
  have e3 : ∀ (A B : Stt), (if ((k - 1 : Nat) : Int) = 0 then A else B) = if k = 1 then A else B := fun A B => by
    by_cases h : k = 1
    · rw [if_pos h, if_pos (by omega)]
    · rw [if_neg h, if_neg (by omega)]
  have hR : R = { R with fault := 0 } := by cases R; simp at hf; subst hf; rfl
  unfold nextR stepR ck sOf eOf
  cases b with
  | true =>
    simp only [if_true]
    unfold keptR
    simp only [e1, e2, e3]
    rw [hf]
  | false =>
    simp only [if_neg (show ¬ (false = true) by decide)]
    unfold keptR
    simp only [e1, e2, e3]
    rw [hf]
theorem ck_go (R : Rm) (D : List UInt8) (k t : Nat) (b : Bool) : isNone (ck R D k t (sOf b)).st = false := by cases b <;> rfl
theorem chunk_feed (R : Rm) (b : Bool) (hf : R.fault = 0) : ∀ (s D : List UInt8) (k t : Nat), 0 < k → k ≤ 4294967296 → t + s.length ≤ 1000000 →
    feedL (ck R D k t (sOf b)) s = if s.length < k then (ck R (D ++ s) (k - s.length) (t + s.length) (sOf b), s.length) else ((feedL (ck R (D ++ s.take k) 0 (t + k) (eOf b)) (s.drop k)).1, (feedL (ck R (D ++ s.take k) 0 (t + k) (eOf b)) (s.drop k)).2 + k)
  | [], D, k, t, hk, hk2, ht => by
    rw [if_pos (show ([] : List UInt8).length < k from hk), List.append_nil]
    rfl
  | c :: r, D, k, t, hk, hk2, ht => by
    have hlr : t + r.length + 1 ≤ 1000000 := by simp at ht; omega
    rw [feedL_step (ck_go R D k t b) hf, ck_next R D k t b c hf hk hk2 (by omega)]
    by_cases h1 : k = 1
    · subst h1
      rw [if_pos rfl, if_neg (by simp)]
      rfl
    · have ih := chunk_feed R b hf r (D ++ [c]) (k - 1) (t + 1) (by omega) (by omega) (by omega)
      rw [if_neg h1, ih]
      by_cases h2 : r.length < k - 1
      · rw [if_pos h2, if_pos (by simp; omega), List.append_assoc]
        simp only [List.singleton_append, List.length_cons]
        rw [show k - 1 - r.length = k - (r.length + 1) by omega, show t + 1 + r.length = t + (r.length + 1) by omega]
      · rw [if_neg h2, if_neg (by simp; omega)]
        obtain ⟨j, rfl⟩ : ∃ j, k = j + 1 := ⟨k - 1, by omega⟩
        rw [Nat.add_sub_cancel, List.take_succ_cons, List.drop_succ_cons, List.append_assoc, List.singleton_append, show t + 1 + j = t + (j + 1) by omega]
        rfl
/-! ### The end of a chunk -/
def stR (R : Rm) (st : Stt) (e : Int) : Rm := { R with st := st, fault := e }
theorem m10_feed (R : Rm) (h : R.st = .m10) (hf : R.fault = 0) (d : UInt8) (r : List UInt8) : feedL R (d :: r) = if d ≠ 10 then (stR R .none 200, 1) else ((feedL (stR R .digit 0) r).1, (feedL (stR R .digit 0) r).2 + 1) := by
  rw [feedL_step (by rw [h]; rfl) hf]
  have e : nextR R d = stR R (if d = 10 then .digit else .none) (if d = 10 then 0 else 200) := by
    unfold nextR stepR
    rw [h]
    rfl
  rw [e]
  by_cases hd : d = 10
  · rw [if_pos hd, if_pos hd, if_neg (fun e => e hd)]
  · rw [if_neg hd, if_neg hd, if_pos hd, feedL_halt (.inl rfl)]
theorem m13_feed (R : Rm) (h : R.st = .m13) (hf : R.fault = 0) : ∀ s : List UInt8, (∃ u e, endsF s = some (u, e) ∧ u ≤ s.length ∧ (e = 0 → u = s.length) ∧ ∃ st, feedL R s = (stR R st e, u) ∧ isNone st = decide (e ≠ 0)) ∨ (endsF s = none ∧ 2 ≤ s.length ∧ feedL R s = ((feedL (stR R .digit 0) (s.drop 2)).1, (feedL (stR R .digit 0) (s.drop 2)).2 + 2))
  | [] => .inl ⟨0, 0, rfl, Nat.le_refl _, fun _ => rfl, .m13, by unfold feedL stR; cases R; simp at h hf; subst h; subst hf; rfl, rfl⟩
  | c :: r => by
    have e : nextR R c = stR R (if c = 13 then .m10 else .none) (if c = 13 then 0 else 200) := by
      unfold nextR stepR
      rw [h]
      rfl
    have hs := feedL_step (c := c) (s := r) (show isNone R.st = false by rw [h]; rfl) hf
    rw [e] at hs
    by_cases hc : c = 13
    · subst hc
      rw [if_pos rfl, if_pos rfl] at hs
      cases r with
      | nil => exact .inl ⟨1, 0, rfl, by simp, fun _ => rfl, .m10, by rw [hs]; rfl, rfl⟩
      | cons d r2 =>
        rw [m10_feed (stR R .m10 0) rfl rfl d r2] at hs
        by_cases hd : d = 10
        · subst hd
          rw [if_neg (fun e => e rfl)] at hs
          exact .inr ⟨rfl, by simp, by rw [hs]; rfl⟩
        · rw [if_pos hd] at hs
          exact .inl ⟨2, 200, endsF_bad2 d r2 hd, by simp, (fun e => absurd e (by decide)), .none, (by rw [hs]; rfl), rfl⟩
    · rw [if_neg hc, if_neg hc, feedL_halt (R := stR R .none 200) (.inl rfl)] at hs
      exact .inl ⟨1, 200, endsF_bad1 c r hc, by simp, (fun e => absurd e (by decide)), .none, (by rw [hs]), rfl⟩
/-! ### The lines behind the last size -/
structure TrP (R R' : Rm) (z : Nat × Bool × Int) (n : Nat) : Prop where
  data : R'.data = R.data
  total : R'.total = R.total
  fault : R'.fault = z.2.2
  done : (isNone R'.st && decide (R'.fault = 0)) = z.2.1
  more : z.2.1 = false → z.2.2 = 0 → isNone R'.st = false ∧ z.1 = n
theorem trailer_feed : ∀ (s T : List UInt8) (R : Rm) (f : Nat), R.st = .trailer → R.fault = 0 → R.text = T → R.fields = (f : Int) → f + s.length ≤ 1000000 → ∃ R', feedL R s = (R', (tlG f T s).1) ∧ TrP R R' (tlG f T s) s.length
  | [], T, R, f, h1, h2, h3, h4, h5 => ⟨R, rfl, rfl, rfl, h2, by rw [h1]; rfl, fun _ _ => ⟨by rw [h1]; rfl, rfl⟩⟩
  | c :: r, T, R, f, h1, h2, h3, h4, h5 => by
    have hlr : f + r.length + 1 ≤ 1000000 := by simp at h5; omega
    have hs := feedL_step (c := c) (s := r) (show isNone R.st = false by rw [h1]; rfl) h2
    have hn : nextR R c = { (stepT R c).2.2 with st := (stepT R c).1, fault := (stepT R c).2.1 } := by
      unfold nextR stepR
      rw [h1]
    have hlen : (R.text ++ [c]).length = T.length + 1 := by rw [h3]; simp
    unfold stepT at hn
    rw [hlen] at hn
    unfold tlG
    have hbad : ∀ e : Int, e ≠ 0 → nextR R c = { txtR R c with st := .none, fault := e } → ∃ R', feedL R (c :: r) = (R', ((1, false, e) : Nat × Bool × Int).1) ∧ TrP R R' (1, false, e) (c :: r).length := fun e he hn => by
      have hz : isNone (nextR R c).st = true := by rw [hn]; rfl
      refine ⟨nextR R c, by rw [hs, feedL_halt (.inl hz)], by rw [hn]; rfl, by rw [hn]; rfl, by rw [hn], ?_, fun _ h => absurd h he⟩
      rw [hz, hn]
      show (true && decide (e = 0)) = false
      rw [decide_eq_false he]; rfl
    by_cases hc : c ≠ 10
    · rw [if_pos (u8ne 10 rfl hc)] at hn
      rw [if_pos hc]
      by_cases h4' : 4097 < T.length + 1
      · rw [if_pos h4'] at hn ⊢
        exact hbad 195 (by decide) hn
      · rw [if_neg h4'] at hn ⊢
        obtain ⟨R', q1, q2⟩ := trailer_feed r (T ++ [c]) (nextR R c) f (by rw [hn]) (by rw [hn]) (by rw [hn]; show R.text ++ [c] = _; rw [h3]) (by rw [hn]; exact h4) (by omega)
        refine ⟨R', by rw [hs, q1], ?_⟩
        exact ⟨q2.data.trans (by rw [hn]; rfl), q2.total.trans (by rw [hn]; rfl), q2.fault, q2.done, fun a b => ⟨(q2.more a b).1, by have := (q2.more a b).2; simp only [List.length_cons]; omega⟩⟩
    · have hc : c = 10 := Classical.byContradiction hc
      subst hc
      rw [if_neg (show ¬ (((10 : UInt8).toNat : Int) ≠ 10) from fun e => e rfl)] at hn
      rw [if_neg (fun e => e rfl)]
      rw [h3] at hn
      cases he : endsB T with
      | false =>
        rw [if_pos rfl]
        have hn' : nextR R 10 = { txtR R 10 with st := .none, fault := 200 } := by
          have hx := of_decide_eq_false he
          by_cases h0 : T.length + 1 < 2
          · rw [if_pos h0] at hn; exact hn
          · rw [if_neg h0, if_pos (by intro e; exact hx ⟨by omega, by omega⟩)] at hn; exact hn
        exact hbad 200 (by decide) hn'
      | true =>
        rw [if_neg (by decide)]
        have hx := of_decide_eq_true he
        rw [if_neg (by omega), if_neg (by intro e; exact e (by omega))] at hn
        by_cases h1' : T.length = 1
        · rw [if_pos h1']
          rw [if_pos (by omega)] at hn
          have hz : isNone (nextR R 10).st = true := by rw [hn]; rfl
          exact ⟨nextR R 10, by rw [hs, feedL_halt (.inl hz)], by rw [hn]; rfl, by rw [hn]; rfl, by rw [hn], by rw [hz, hn]; rfl, fun a _ => by cases a⟩
        · rw [if_neg h1']
          rw [if_neg (by omega)] at hn
          by_cases h2' : 4096 < T.length - 1 ∨ 64 ≤ f
          · rw [if_pos h2']
            have hn' : nextR R 10 = { txtR R 10 with st := .none, fault := 195 } := by
              by_cases h0 : 4096 < ((T.length + 1 : Nat) : Int) - 2
              · rw [if_pos h0] at hn; exact hn
              · rw [if_neg h0, if_pos (by rw [h4]; omega)] at hn; exact hn
            exact hbad 195 (by decide) hn'
          · rw [if_neg h2']
            rw [if_neg (by omega), if_neg (by rw [h4]; omega)] at hn
            have htk : (T ++ [10]).take (T.length + 1 - 2) = T.take (T.length - 1) := by
              rw [show T.length + 1 - 2 = T.length - 1 by omega]
              exact List.take_append_of_le_length (by omega)
            rw [htk] at hn
            cases hk : fieldOk (T.take (T.length - 1)) with
            | false =>
              rw [hk, if_pos rfl] at hn
              rw [if_pos rfl]
              exact hbad 200 (by decide) hn
            | true =>
              rw [hk, if_neg (by decide)] at hn
              rw [if_neg (by decide)]
              obtain ⟨R', q1, q2⟩ := trailer_feed r [] (nextR R 10) (f + 1) (by rw [hn]) (by rw [hn]) (by rw [hn]; rfl) (by rw [hn]; show wrap64 (R.fields + 1) = _; rw [h4]; exact w64n f (by omega)) (by omega)
              refine ⟨R', by rw [hs, q1], ?_⟩
              exact ⟨q2.data.trans (by rw [hn]; rfl), q2.total.trans (by rw [hn]; rfl), q2.fault, q2.done, fun a b => ⟨(q2.more a b).1, by have := (q2.more a b).2; simp only [List.length_cons]; omega⟩⟩
end Go.Proofs.YtllcfifeaacmiaaDoor.Pr
namespace Go.Proofs.YtllcfifeaacmiaaDoor.Pr
open Go.RowKit Go.Proofs.YtllcfifeaacmiaaDoorW.PrintWords Go.Proofs.YtllcfifeaacmiaaDoorW.PrintLast Go.Proofs.YtllcfifeaacmiaaDoorW.PrintMore
set_option linter.unusedVariables false
set_option linter.unusedSimpArgs false

/-! ### Both answers are one -/
structure Fr (R : Rm) (sum t : Nat) : Prop where
  st : R.st = .digit
  line : R.line = 0
  digits : R.digits = 0
  left : R.left = 0
  fields : R.fields = 0
  text : R.text = []
  fault : R.fault = 0
  sum : R.sum = (sum : Int)
  total : R.total = (t : Int)
/-- What a run comes to, of the reader that was fed. -/
structure RunP (s : List UInt8) (n : Nat) (data : List UInt8) (R : Rm) (t : Nat) (r : Nat × List UInt8 × Bool × Int) (R' : Rm) (x : List UInt8) : Prop where
  feed : feedL R (s.drop n) = (R', r.1 - n)
  ge : n ≤ r.1
  le : r.1 ≤ s.length
  data : r.2.1 = data ++ x
  dataR : R'.data = R.data ++ x
  len : x.length ≤ r.1 - n
  total : R'.total = ((t + x.length : Nat) : Int)
  fault : R'.fault = r.2.2.2
  done : (isNone R'.st && decide (R'.fault = 0)) = r.2.2.1
  more : r.2.2.1 = false → r.2.2.2 = 0 → isNone R'.st = false ∧ r.1 = s.length
  made : R'.made = R.made
theorem szd_ck (R : Rm) (k t : Nat) (hk : k ≠ 0) (hs : ¬ 16777216 < wrap64 (R.sum + (k : Int))) (ht : R.total = (t : Int)) : szd R k = ck (szd R k) R.data k t (sOf false) := by
  unfold szd ck sOf
  rw [if_neg hs, if_neg hs, if_neg hk, ht]
  rfl
theorem feed_made : ∀ (s : List UInt8) (R : Rm), (feedL R s).1.made = R.made
  | [], R => rfl
  | c :: s, R => by
    unfold feedL
    split
    · rw [feed_made s]
      exact (stepR_sizes R c).2.2
    · rfl
theorem run_feed (s : List UInt8) (hs : s.length ≤ 40000) : ∀ (fuel n sum : Nat) (data : List UInt8) (R : Rm) (t : Nat), s.length - n < fuel → n ≤ s.length → sum ≤ 16777216 → Fr R sum t → t ≤ n →
    ∃ r, runS ZZ s fuel n sum data = some r ∧ ∃ R' x, RunP s n data R t r R' x
  | 0, n, sum, data, R, t, hf, hn, hsum, hR, ht => by omega
  | g + 1, n, sum, data, R, t, hf, hn, hsum, hR, ht => by
    have hpl : (s.drop n).length = s.length - n := List.length_drop
    have hz : ZZ.sz (s.drop n) = szM (.dg 0 0) 0 (s.drop n) := rfl
    have htl : ∀ q, ZZ.tl q = tlG 0 [] q := fun _ => rfl
    have hrel : RelPh R (.dg 0 0) 0 := ⟨hR.line, hR.fault, hR.st, hR.digits, hR.left⟩
    have hB : PhB (.dg 0 0) := ⟨by decide, by decide⟩
    have hline := line_feed (s.drop n) R (.dg 0 0) 0 hrel hB (by omega)
    have hle := szM_le (s.drop n) (.dg 0 0) 0 hB
    unfold runS
    rw [hz]
    simp only [htl]
    obtain ⟨z, hzz⟩ : ∃ z, szM (.dg 0 0) 0 (s.drop n) = z := ⟨_, rfl⟩
    rw [hzz] at hline hle ⊢
    clear hz hzz
    obtain ⟨ln, k, u, e⟩ := z
    simp only at hline hle ⊢
    rw [Nat.zero_add, hpl] at hle
    obtain ⟨hu, hk⟩ := hle
    have hmade := feed_made (s.drop n) R
    rcases hline with ⟨q1, q2, R', q3, q4⟩ | ⟨q1, q2, q3, R', p', q4, q5, q6⟩ | ⟨q1, q2, q3, q4, R1, q5, q6, q7⟩
    · have q1 : e ≠ 0 := q1
      have q3 : feedL R (s.drop n) = (R', u) := q3
      rw [if_pos (.inl q1)]
      rw [q3] at hmade
      refine ⟨_, rfl, R', [], ⟨by rw [q3]; simp, by simp, by simp; omega, by simp, by rw [q4.same.data]; simp, by simp, by rw [q4.same.total, hR.total]; simp, q4.fault, ?_, fun _ h => absurd h q1, hmade⟩⟩
      rw [q4.st, q4.fault, decide_eq_false q1]
      rfl
    · have q1 : e = 0 := q1
      have q2 : ln = 0 := q2
      have q3 : u = 0 + (s.drop n).length := q3
      rw [if_pos (.inr q2)]
      rw [q4] at hmade
      have hgo := q5.go
      have hfl := q5.fault
      refine ⟨_, rfl, R', [], ⟨by rw [q4]; simp; omega, by simp, by simp; omega, by simp, by rw [q6.data]; simp, by simp, by rw [q6.total, hR.total]; simp, by rw [hfl]; exact q1.symm, by rw [hgo]; rfl, fun _ _ => ⟨hgo, by simp; omega⟩, hmade⟩⟩
    · have q1 : e = 0 := q1
      have q2 : ln ≠ 0 := q2
      have q7 : feedL R (s.drop n) = ((feedL (szd R1 k) ((s.drop n).drop u)).1, (feedL (szd R1 k) ((s.drop n).drop u)).2 + u) := q7
      rw [if_neg (by rintro (h | h); exact h q1; exact q2 h)]
      have hw : wrap64 (R1.sum + (k : Int)) = ((sum + k : Nat) : Int) := by
        rw [q6, hR.sum, show (sum : Int) + (k : Int) = ((sum + k : Nat) : Int) by omega]
        exact w64c _ (by omega)
      rw [List.drop_drop] at q7
      have hN : n + u ≤ s.length := by omega
      by_cases h1 : 16777216 < sum + k
      · rw [if_pos h1]
        have hb : 16777216 < wrap64 (R1.sum + (k : Int)) := by rw [hw]; omega
        have hst : (szd R1 k).st = .none := by unfold szd; exact if_pos hb
        have hfl : (szd R1 k).fault = 4 := by unfold szd; exact if_pos hb
        have hh := feedL_halt (s := s.drop (n + u)) (.inl (show isNone (szd R1 k).st = true by rw [hst]; rfl))
        rw [hh] at q7
        rw [q7] at hmade
        refine ⟨_, rfl, szd R1 k, [], ⟨by rw [q7]; simp, by simp, by simp; omega, by simp, by show R1.data = _; rw [q5.data]; simp, by simp, by show R1.total = _; rw [q5.total, hR.total]; simp, hfl, by rw [hst, hfl]; rfl, fun _ h => absurd (show (4 : Int) = 0 from h) (by decide), hmade⟩⟩
      · rw [if_neg h1]
        have hb : ¬ 16777216 < wrap64 (R1.sum + (k : Int)) := by rw [hw]; omega
        have hfl : (szd R1 k).fault = 0 := by unfold szd; exact if_neg hb
        by_cases h0 : k = 0
        · rw [if_pos h0]
          have hst : (szd R1 k).st = .trailer := by unfold szd; simp only [if_neg hb, if_pos h0]
          obtain ⟨R', t1, t2⟩ := trailer_feed (s.drop (n + u)) [] (szd R1 k) 0 hst hfl (q5.text.trans hR.text) (q5.fields.trans hR.fields) (by rw [List.length_drop]; omega)
          have htle := tlG_le (s.drop (n + u)) [] 0
          rw [List.length_drop] at htle
          rw [t1] at q7
          rw [q7] at hmade
          refine ⟨_, rfl, R', [], ⟨by rw [q7]; simp; omega, by simp; omega, by simp; omega, by simp, by rw [t2.data]; show R1.data = _; rw [q5.data]; simp, by simp, by rw [t2.total]; show R1.total = _; rw [q5.total, hR.total]; simp, t2.fault, t2.done, fun a b => ⟨(t2.more a b).1, ?_⟩, hmade⟩⟩
          have := (t2.more a b).2
          rw [List.length_drop] at this
          simp
          omega
        · rw [if_neg h0]
          have hck := szd_ck R1 k t h0 hb (q5.total.trans hR.total)
          have hcf := chunk_feed (szd R1 k) false hfl (s.drop (n + u)) R1.data k t (by omega) (by omega) (by rw [List.length_drop]; omega)
          rw [← hck, List.length_drop] at hcf
          rw [hcf] at q7
          by_cases h2 : s.length - (n + u) < k
          · rw [if_pos h2]
            rw [if_pos h2] at q7
            simp only at q7
            rw [q7] at hmade
            have hxl : (s.drop (n + u)).length = s.length - (n + u) := List.length_drop
            refine ⟨_, rfl, ck (szd R1 k) (R1.data ++ s.drop (n + u)) (k - (s.length - (n + u))) (t + (s.length - (n + u))) (sOf false), s.drop (n + u), ⟨by rw [q7]; simp; omega, by simp; omega, by simp, by simp, by show R1.data ++ _ = _; rw [q5.data], by rw [hxl]; simp; omega, by rw [hxl]; rfl, hfl, by show (isNone .chunk && _) = _; rfl, fun _ _ => ⟨rfl, rfl⟩, hmade⟩⟩
          · rw [if_neg h2]
            rw [if_neg h2] at q7
            rw [List.drop_drop] at q7
            obtain ⟨Rk, hRk⟩ : ∃ Rk, ck (szd R1 k) (R1.data ++ (s.drop (n + u)).take k) 0 (t + k) (eOf false) = Rk := ⟨_, rfl⟩
            rw [hRk] at q7
            have hxl : ((s.drop (n + u)).take k).length = k := by rw [List.length_take, List.length_drop]; omega
            have hRd : Rk.data = R.data ++ (s.drop (n + u)).take k := by rw [← hRk]; show R1.data ++ _ = _; rw [q5.data]
            have hRt : Rk.total = ((t + k : Nat) : Int) := by rw [← hRk]; rfl
            have hRs : Rk.st = .m13 := by rw [← hRk]; rfl
            have hRf : Rk.fault = 0 := by rw [← hRk]; exact hfl
            have hdl : (s.drop (n + u + k)).length = s.length - (n + u + k) := List.length_drop
            rcases m13_feed Rk hRs hRf (s.drop (n + u + k)) with ⟨u2, e2, m1, m2, m3, st, m4, m5⟩ | ⟨m1, m2, m3⟩
            · rw [m1]
              rw [m4] at q7
              rw [q7] at hmade
              rw [hdl] at m2 m3
              refine ⟨_, rfl, stR Rk st e2, (s.drop (n + u)).take k, ⟨by rw [q7]; simp; omega, by simp; omega, by simp; omega, by simp, hRd, by rw [hxl]; simp; omega, by rw [hxl]; exact hRt, rfl, ?_, fun _ h => ⟨?_, ?_⟩, hmade⟩⟩
              · show (isNone st && decide (e2 = 0)) = false
                rw [m5]
                by_cases h : e2 = 0
                · rw [h]; rfl
                · rw [decide_eq_false h, Bool.and_false]
              · show isNone st = false
                rw [m5]
                have h : e2 = 0 := h
                rw [h]; rfl
              · have h : e2 = 0 := h
                have := m3 h
                simp
                omega
            · rw [m1]
              simp only
              rw [hdl] at m2
              rw [m3, List.drop_drop] at q7
              have hFr : Fr (stR Rk .digit 0) (sum + k) (t + k) := ⟨rfl, by rw [← hRk]; rfl, by rw [← hRk]; rfl, by rw [← hRk]; rfl, by rw [← hRk]; exact q5.fields.trans hR.fields, by rw [← hRk]; exact q5.text.trans hR.text, rfl, by rw [← hRk]; exact hw, hRt⟩
              obtain ⟨r, i1, R', x, i2⟩ := run_feed s hs g (n + u + k + 2) (sum + k) (data ++ (s.drop (n + u)).take k) (stR Rk .digit 0) (t + k) (by omega) (by omega) (by omega) hFr (by omega)
              have i3 := i2.feed
              have hge := i2.ge
              have hxx := i2.len
              rw [i3] at q7
              rw [q7] at hmade
              refine ⟨r, i1, R', (s.drop (n + u)).take k ++ x, ⟨by rw [q7]; simp; omega, by omega, i2.le, by rw [i2.data, List.append_assoc], by rw [i2.dataR]; show Rk.data ++ x = _; rw [hRd, List.append_assoc], by rw [List.length_append, hxl]; omega, by rw [i2.total, List.length_append, hxl, Nat.add_assoc], i2.fault, i2.done, i2.more, hmade⟩⟩
end Go.Proofs.YtllcfifeaacmiaaDoor.Pr
