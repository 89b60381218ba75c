import Derived.Test.YtikhoooiklkbiaaDoorGref
namespace Go.Proofs.YtikhoooiklkbiaaDoor.Pr
open Go.RowKit Go.Proofs.YtikhoooiklkbiaaDoorW.PrintWords Go.Proofs.YtikhoooiklkbiaaDoorW.PrintLast Go.Proofs.YtikhoooiklkbiaaDoorW.PrintMore
set_option linter.unusedVariables false
set_option linter.unusedSimpArgs false

/-! ### What the reference makes -/
theorem rdT_app (A B : List Sp) (x : Sp) : rd_T37 (A ++ x :: B) (A.length : Int) = x := by
  simp [rd_T37, List.getD]
theorem w32s (x : Int) (h0 : -2000000 ≤ x) (h : x ≤ 2000000) : wrap32 x = x := IntWalk.wrap32_in _ (by omega)
theorem has_go (l : List Sp) (r : Int) (hl : l.length ≤ 100000) : ∀ (rest pre : List Sp), l = pre ++ rest → Ev (fun k => portcullisref02_Has.l0 k l r (pre.length : Int)) (hasL rest r)
  | [], pre, e => by
    refine Ev.one fun k => ?_
    simp only [portcullisref02_Has.l0]
    have hlen : l.length = pre.length := by rw [e]; simp
    rw [if_neg (by omega)]
    rfl
  | s :: rest, pre, e => by
    have hlen : l.length = pre.length + 1 + rest.length := by rw [e]; simp; omega
    have h1 : rd_T37 l (pre.length : Int) = s := by rw [e]; exact rdT_app _ _ _
    have ih := has_go l r hl rest (pre ++ [s]) (by rw [e]; simp)
    rw [show (pre ++ [s]).length = pre.length + 1 by simp] at ih
    unfold hasL at ih ⊢
    rw [List.any_cons]
    by_cases hin : inS s r
    · rw [decide_eq_true hin, Bool.true_or]
      refine Ev.one fun k => ?_
      simp only [portcullisref02_Has.l0]
      rw [if_pos (by omega), if_pos (by omega), h1, if_pos hin.1, if_pos hin.2]
    · rw [decide_eq_false hin, Bool.false_or]
      refine Ev.step (fun k => ?_) ih
      simp only [portcullisref02_Has.l0]
      rw [if_pos (by omega), if_pos (by omega), h1, w64n _ (by omega)]
      by_cases h2 : s.f0 ≤ r
      · rw [if_pos h2, if_neg (fun e => hin ⟨h2, e⟩)]
      · rw [if_neg h2]
theorem has_is (l : List Sp) (r : Int) (hl : l.length ≤ 100000) : Ev (fun k => portcullisref02_Has.f k l r) (hasL l r) := has_go l r hl l [] rfl
instance (s : Sp) : Decidable (okS s) := by unfold okS; infer_instance
def chk (l : List Sp) : Int := if 1024 < l.length then 4 else if ∀ s ∈ l, okS s then 0 else 2
theorem chk_ok {l : List Sp} (h : chk l = 0) : l.length ≤ 1024 ∧ ∀ s ∈ l, okS s := by
  unfold chk at h
  split at h
  · cases h
  · split at h
    · next h1 h2 => exact ⟨by omega, h2⟩
    · cases h
theorem check_go (l : List Sp) (hl : l.length ≤ 100000) : ∀ (rest pre : List Sp), l = pre ++ rest → Ev (fun k => portcullisref02_Check.l0 k l (pre.length : Int)) (if ∀ s ∈ rest, okS s then 0 else 2)
  | [], pre, e => by
    refine Ev.one fun k => ?_
    simp only [portcullisref02_Check.l0]
    have hlen : l.length = pre.length := by rw [e]; simp
    rw [if_neg (by omega), if_pos (by simp)]
  | s :: rest, pre, e => by
    have hlen : l.length = pre.length + 1 + rest.length := by rw [e]; simp; omega
    have h1 : rd_T37 l (pre.length : Int) = s := by rw [e]; exact rdT_app _ _ _
    have ih := check_go l hl rest (pre ++ [s]) (by rw [e]; simp)
    rw [show (pre ++ [s]).length = pre.length + 1 by simp] at ih
    by_cases hs : okS s
    · have hr : (if ∀ x ∈ s :: rest, okS x then (0 : Int) else 2) = if ∀ x ∈ rest, okS x then 0 else 2 := by
        by_cases hr : ∀ x ∈ rest, okS x
        · rw [if_pos hr, if_pos (fun x hx => (List.mem_cons.1 hx).elim (fun e => by rw [e]; exact hs) (hr x))]
        · rw [if_neg hr, if_neg (fun h => hr fun x hx => h x (List.mem_cons_of_mem _ hx))]
      rw [hr]
      unfold okS at hs
      refine Ev.step (fun k => ?_) ih
      simp only [portcullisref02_Check.l0]
      rw [if_pos (by omega), if_pos (by omega), h1, if_neg (by omega), if_neg (by omega), if_neg (by omega), w64n _ (by omega)]
    · rw [if_neg (fun h => hs (h s (by simp)))]
      refine Ev.one fun k => ?_
      simp only [portcullisref02_Check.l0]
      rw [if_pos (by omega), if_pos (by omega), h1]
      unfold okS at hs
      by_cases g1 : s.f0 < 0
      · rw [if_pos g1]
      · rw [if_neg g1]
        by_cases g2 : s.f0 > s.f1
        · rw [if_pos g2]
        · rw [if_neg g2, if_pos (by omega)]
theorem check_is (l : List Sp) (hl : l.length ≤ 100000) : Ev (fun k => portcullisref02_Check.f k l) (chk l) := by
  unfold chk
  by_cases h : 1024 < l.length
  · rw [if_pos h]
    refine Ev.of_eq (fun k => ?_) ⟨0, fun k _ => rfl⟩
    unfold portcullisref02_Check.f
    rw [if_pos (by omega)]
  · rw [if_neg h]
    refine Ev.of_eq (fun k => ?_) (check_go l hl l [] rfl)
    unfold portcullisref02_Check.f
    rw [if_neg (by omega)]
    rfl
theorem scheck_go (l : List Sp) (hl : l.length ≤ 100000) : ∀ (rest pre : List Sp), l = pre ++ rest → Ev (fun k => span_Check.l0 k l (l.length : Int) (pre.length : Int)) (if ∀ s ∈ rest, okS s then 0 else 2)
  | [], pre, e => by
    refine Ev.one fun k => ?_
    simp only [span_Check.l0]
    have hlen : l.length = pre.length := by rw [e]; simp
    rw [if_neg (by omega), if_pos (by simp)]
  | s :: rest, pre, e => by
    have hlen : l.length = pre.length + 1 + rest.length := by rw [e]; simp; omega
    have h1 : rd_T37 l (pre.length : Int) = s := by rw [e]; exact rdT_app _ _ _
    have ih := scheck_go l hl rest (pre ++ [s]) (by rw [e]; simp)
    rw [show (pre ++ [s]).length = pre.length + 1 by simp] at ih
    by_cases hs : okS s
    · have hr : (if ∀ x ∈ s :: rest, okS x then (0 : Int) else 2) = if ∀ x ∈ rest, okS x then 0 else 2 := by
        by_cases hr : ∀ x ∈ rest, okS x
        · rw [if_pos hr, if_pos (fun x hx => (List.mem_cons.1 hx).elim (fun e => by rw [e]; exact hs) (hr x))]
        · rw [if_neg hr, if_neg (fun h => hr fun x hx => h x (List.mem_cons_of_mem _ hx))]
      rw [hr]
      unfold okS at hs
      refine Ev.step (fun k => ?_) ih
      simp only [span_Check.l0]
      rw [if_pos (by omega), if_pos (by omega), if_pos (by omega), h1, if_neg (by omega), if_neg (by omega), if_neg (by omega), w64n _ (by omega)]
    · rw [if_neg (fun h => hs (h s (by simp)))]
      refine Ev.one fun k => ?_
      simp only [span_Check.l0]
      rw [if_pos (by omega), if_pos (by omega), if_pos (by omega), h1]
      unfold okS at hs
      by_cases g1 : s.f0 < 0
      · rw [if_pos g1]
      · rw [if_neg g1]
        by_cases g2 : s.f0 > s.f1
        · rw [if_pos g2]
        · rw [if_neg g2, if_pos (by omega)]
theorem scheck_is (l : List Sp) (hl : l.length ≤ 100000) : Ev (fun k => span_Check.f k l) (chk l) := by
  unfold chk
  by_cases h : 1024 < l.length
  · rw [if_pos h]
    refine Ev.of_eq (fun k => ?_) ⟨0, fun k _ => rfl⟩
    unfold span_Check.f
    rw [if_pos (by omega)]
  · rw [if_neg h]
    refine Ev.of_eq (fun k => ?_) (scheck_go l hl l [] rfl)
    unfold span_Check.f
    rw [if_neg (by omega)]
    rfl
/-! places -/
def allP (a b : List Sp) : List Int := [0, 1114112] ++ placesL (a ++ b)
def sortP (l : List Int) : List Int := l.mergeSort fun x y => decide (x ≤ y)
theorem sortP_perm (l : List Int) : (sortP l).Perm l := List.mergeSort_perm _ _
theorem sortP_sor (l : List Int) : Sor (sortP l) := by
  have h := List.pairwise_mergeSort (le := fun x y : Int => decide (x ≤ y)) (fun a b c h1 h2 => by simp only [decide_eq_true_eq] at h1 h2 ⊢; omega) (fun a b => by simp only [Bool.or_eq_true, decide_eq_true_eq]; omega) l
  unfold Sor
  exact h.imp fun h => by simpa using h
theorem placesL_len : ∀ l : List Sp, (placesL l).length = 2 * l.length
  | [] => rfl
  | s :: l => by
    have ih := placesL_len l
    unfold placesL at ih ⊢
    rw [List.flatMap_cons, List.length_append, ih]
    simp; omega
theorem e0_go (l : List Sp) (hok : ∀ s ∈ l, okS s) (hl : l.length ≤ 10000) (r : List Int) : ∀ (rest pre : List Sp) (x5 : List Int), l = pre ++ rest → x5.length = 2 + 2 * pre.length → Ev (fun k => portcullisref02_edges.l1 k (x5 ++ placesL rest) 1) r → Ev (fun k => portcullisref02_edges.l0 k x5 l (pre.length : Int)) r
  | [], pre, x5, e, h5, h => by
    refine Ev.step (fun k => ?_) h
    simp only [portcullisref02_edges.l0]
    have hlen : l.length = pre.length := by rw [e]; simp
    rw [if_neg (by omega)]
    simp [placesL]
  | s :: rest, pre, x5, e, h5, h => by
    have hlen : l.length = pre.length + 1 + rest.length := by rw [e]; simp; omega
    have h1 : rd_T37 l (pre.length : Int) = s := by rw [e]; exact rdT_app _ _ _
    have hs := hok s (by rw [e]; simp)
    unfold okS at hs
    have ih := e0_go l hok hl r rest (pre ++ [s]) (x5 ++ [s.f0, s.f1 + 1]) (by rw [e]; simp) (by simp; omega) (by
      have : x5 ++ [s.f0, s.f1 + 1] ++ placesL rest = x5 ++ placesL (s :: rest) := by simp [placesL]
      rw [this]; exact h)
    rw [show (pre ++ [s]).length = pre.length + 1 by simp] at ih
    refine Ev.step (fun k => ?_) ih
    simp only [portcullisref02_edges.l0]
    rw [if_pos (by omega), if_pos (by omega), h1]
    simp only [Option.bind_some]
    rw [if_pos (by simp; omega), w64n _ (by omega), w32s _ (by omega) (by omega)]
theorem edges_is (a b : List Sp) (ha : ∀ s ∈ a, okS s) (hb : ∀ s ∈ b, okS s) (la : a.length ≤ 1024) (lb : b.length ≤ 1024) : Ev (fun k => portcullisref02_edges.f k a b) (dedupA (sortP (allP a b))) := by
  have hab : ∀ s ∈ a ++ b, okS s := fun s hs => (List.mem_append.1 hs).elim (ha s) (hb s)
  have hl : (a ++ b).length ≤ 10000 := by simp; omega
  have hpl := placesL_len (a ++ b)
  obtain ⟨S, hp, hs, hev⟩ := l1_go (dedupA (sortP (allP a b))) (1114112 :: placesL (a ++ b)) [0] (by simp only [List.length_append, List.length_cons, List.length_nil, hpl]; omega) (by unfold Sor; simp)
  have hS : S = sortP (allP a b) := asc_unique S _ hs (sortP_sor _) (hp.trans (sortP_perm (allP a b)).symm)
  have hne : S ≠ [] := fun e => by
    have := hp.length_eq
    rw [e] at this
    simp at this
  have h3 := l3_is S (by rw [hp.length_eq]; simp only [List.length_append, List.length_cons, List.length_nil, hpl]; omega) hne
  rw [hS] at h3
  have h1 := hev (by rw [hS]; exact h3)
  have h0 := e0_go (a ++ b) hab hl _ (a ++ b) [] [0, 1114112] rfl rfl h1
  refine Ev.of_eq (fun k => ?_) h0
  unfold portcullisref02_edges.f
  rw [if_pos (by simp; omega)]
  simp only [Option.bind_some]
  rw [if_pos (by simp; omega)]
  rfl
end Go.Proofs.YtikhoooiklkbiaaDoor.Pr
namespace Go.Proofs.YtikhoooiklkbiaaDoor.Pr
open Go.RowKit Go.Proofs.YtikhoooiklkbiaaDoorW.PrintWords Go.Proofs.YtikhoooiklkbiaaDoorW.PrintLast Go.Proofs.YtikhoooiklkbiaaDoorW.PrintMore
set_option linter.unusedVariables false
set_option linter.unusedSimpArgs false

/-! ### The reference's Made -/
def cntH (how : Int) (x y : Bool) : Bool := if how = 0 then x || y else if how = 1 then x && y else if how = 2 then x && !y else !x
theorem counts_is (how : Int) (x y : Bool) : portcullisref02_counts.f how x y = some (cntH how x y) := by
  unfold portcullisref02_counts.f cntH
  by_cases h0 : how = 0
  · rw [if_pos h0, if_pos h0]; cases x <;> cases y <;> rfl
  · rw [if_neg h0, if_neg h0]
    by_cases h1 : how = 1
    · rw [if_pos h1, if_pos h1]; cases x <;> cases y <;> rfl
    · rw [if_neg h1, if_neg h1]
      by_cases h2 : how = 2
      · rw [if_pos h2, if_pos h2]; cases x <;> cases y <;> rfl
      · rw [if_neg h2, if_neg h2]
def finM (out : List Sp) : List Sp × Int := if 1024 < out.length then ([], 4) else (out, 0)
def OutB (out : List Sp) : Prop := ∀ s ∈ out, -1 ≤ s.f1 ∧ s.f1 ≤ 1114111
theorem put_nil (p q : Int) : put [] p q = [⟨p, q - 1⟩] := rfl
theorem put_snoc (o : List Sp) (s : Sp) (p q : Int) : put (o ++ [s]) p q = if s.f1 + 1 = p then o ++ [⟨s.f0, q - 1⟩] else (o ++ [s]) ++ [⟨p, q - 1⟩] := by
  unfold put
  rw [List.getLast?_append]
  simp
theorem put_len (out : List Sp) (p q : Int) : (put out p q).length ≤ out.length + 1 := by
  rcases List.eq_nil_or_concat out with rfl | ⟨o, s, rfl⟩
  · simp [put_nil]
  · rw [List.concat_eq_append, put_snoc]
    split <;> simp
theorem put_outB (out : List Sp) (p q : Int) (h : OutB out) (hq : 0 ≤ q ∧ q ≤ 1114112) : OutB (put out p q) := by
  rcases List.eq_nil_or_concat out with rfl | ⟨o, s, rfl⟩
  · intro x hx
    rw [put_nil] at hx
    rw [List.mem_singleton.1 hx]
    simp only; omega
  · rw [List.concat_eq_append] at h ⊢
    rw [put_snoc]
    intro x hx
    split at hx
    · rcases List.mem_append.1 hx with hx | hx
      · exact h x (List.mem_append_left _ hx)
      · rw [List.mem_singleton.1 hx]; simp only; omega
    · rcases List.mem_append.1 hx with hx | hx
      · exact h x hx
      · rw [List.mem_singleton.1 hx]; simp only; omega
theorem nn (n : Nat) : (0 : Int) ≤ (n : Int) := Int.natCast_nonneg n
theorem lti (a b : Nat) (h : a < b) : (a : Int) < (b : Int) := Int.ofNat_lt.2 h
theorem nlti (a b : Nat) (h : b ≤ a) : ¬ (a : Int) < (b : Int) := fun e => by have := Int.ofNat_lt.1 e; omega
theorem w64l (o : List Sp) (s : Sp) (h : o.length ≤ 100000) : wrap64 (((o ++ [s]).length : Int) - 1) = (o.length : Int) := by
  have hol : (o ++ [s]).length = o.length + 1 := by simp
  rw [hol, w64p _ (by omega) (by omega)]; omega
theorem qw (q : Int) (h : 0 ≤ q ∧ q ≤ 1114112) : wrap32 (q - 1) = q - 1 := w32s _ (by omega) (by omega)
theorem sw32 (x : Int) (h : -1 ≤ x ∧ x ≤ 1114111) : wrap32 (x + 1) = x + 1 := w32s _ (by omega) (by omega)
/-- What one round does, its two questions answered. -/
def mBody (k : Nat) (how : Int) (a b : List Sp) (P : List Int) (out : List Sp) (n : Nat) (p q : Int) (t : Bool) : Option (List Sp × Int) :=
  if t = true then (if (out.length : Int) > 0 then (if 0 ≤ (wrap64 ((out.length : Int) - 1)) then (if (wrap64 ((out.length : Int) - 1)) < (out.length : Int) then (if (wrap32 (((rd_T37 out (wrap64 ((out.length : Int) - 1))).f1) + 1)) = p then (if (0 : Int) ≤ ((n + 1 : Nat) : Int) then (portcullisref02_Made.l0 k how a b P (out.set ((wrap64 ((out.length : Int) - 1)) : Int).toNat (⟨(rd_T37 out (wrap64 ((out.length : Int) - 1))).f0, wrap32 (q - 1)⟩ : Sp)) ((n + 1 : Nat) : Int)) else (none)) else (if (0 : Int) ≤ ((n + 1 : Nat) : Int) then (if out.length < 17592186044416 then (portcullisref02_Made.l0 k how a b P (out ++ [(⟨p, wrap32 (q - 1)⟩ : Sp)]) ((n + 1 : Nat) : Int)) else (none)) else (none))) else (none)) else (none)) else (if (0 : Int) ≤ ((n + 1 : Nat) : Int) then (if out.length < 17592186044416 then (portcullisref02_Made.l0 k how a b P (out ++ [(⟨p, wrap32 (q - 1)⟩ : Sp)]) ((n + 1 : Nat) : Int)) else (none)) else (none))) else (portcullisref02_Made.l0 k how a b P out ((n + 1 : Nat) : Int))
theorem mBody_is (k : Nat) (how : Int) (a b : List Sp) (P : List Int) (out : List Sp) (n : Nat) (p q : Int) (t : Bool) (hl : out.length ≤ 100000) (hob : OutB out) (hq : 0 ≤ q ∧ q ≤ 1114112) :
    mBody k how a b P out n p q t = portcullisref02_Made.l0 k how a b P (if t = true then put out p q else out) ((n + 1 : Nat) : Int) := by
  have hbig : out.length < 17592186044416 := by omega
  unfold mBody
  cases t with
  | false => rw [if_neg (by decide), if_neg (by decide)]
  | true =>
    rw [if_pos rfl, if_pos rfl, qw q hq]
    rcases List.eq_nil_or_concat out with rfl | ⟨o, s, rfl⟩
    · rw [put_nil, if_neg (by simp), if_pos (nn _), if_pos hbig, List.nil_append]
    · rw [List.concat_eq_append] at hl hob hbig ⊢
      have hol : (o ++ [s]).length = o.length + 1 := by simp
      have hsb := hob s (by simp)
      have hpos : ((o ++ [s]).length : Int) > 0 := by rw [hol]; exact lti 0 _ (by omega)
      have hlt : (o.length : Int) < ((o ++ [s]).length : Int) := by rw [hol]; exact lti _ _ (by omega)
      have hrd : rd_T37 (o ++ [s]) (o.length : Int) = s := rdT_app o [] s
      rw [if_pos hpos, w64l o s (by omega), if_pos (nn _), if_pos hlt, hrd, sw32 _ hsb, put_snoc, if_pos (nn _), if_pos (nn _), if_pos hbig]
      by_cases hs : s.f1 + 1 = p
      · rw [if_pos hs, if_pos hs, Int.toNat_natCast, List.set_append_right _ _ (Nat.le_refl _), Nat.sub_self, List.set_cons_zero]
      · rw [if_neg hs, if_neg hs]
theorem made_step (k : Nat) (how : Int) (a b : List Sp) (P : List Int) (out : List Sp) (n : Nat) (p q : Int) (hn : n + 1 < P.length) (hl : P.length ≤ 100000) (hp : rd P (n : Int) = p) (hq : rd P ((n + 1 : Nat) : Int) = q) :
    portcullisref02_Made.l0 (k + 1) how a b P out (n : Int) = (portcullisref02_Has.f k a p).bind fun t202 => ((portcullisref02_Has.f k b p).bind fun t204 => ((portcullisref02_counts.f how t202 t204).bind fun t205 => mBody k how a b P out n p q t205)) := by
  have h1 : ((n + 1 : Nat) : Int) < (P.length : Int) := lti _ _ hn
  have h2 : (n : Int) < (P.length : Int) := lti _ _ (by omega)
  simp only [portcullisref02_Made.l0]
  rw [w64n n (by omega), if_pos h1, if_pos (nn _), if_pos h2, hp, hq]
  rfl
theorem made_go (how : Int) (a b : List Sp) (la : a.length ≤ 100000) (lb : b.length ≤ 100000) (P : List Int) (hP : P.length ≤ 100000) (hB : ∀ p ∈ P, 0 ≤ p ∧ p ≤ 1114112) :
    ∀ (rest pre : List Int) (p : Int) (out : List Sp), P = pre ++ p :: rest → out.length ≤ pre.length → OutB out → Ev (fun k => portcullisref02_Made.l0 k how a b P out (pre.length : Int)) (finM (build (fun p => cntH how (hasL a p) (hasL b p)) (p :: rest) out))
  | [], pre, p, out, e, ho, hob => by
    refine Ev.one fun k => ?_
    have hlen : P.length = pre.length + 1 := by rw [e]; simp
    have h1 : ¬ ((pre.length + 1 : Nat) : Int) < (P.length : Int) := nlti _ _ (by omega)
    simp only [portcullisref02_Made.l0]
    rw [w64n _ (by omega), if_neg h1]
    unfold build finM
    by_cases h : 1024 < out.length
    · rw [if_pos (show (out.length : Int) > 1024 from lti 1024 _ h), if_pos h]
    · rw [if_neg (show ¬ (out.length : Int) > 1024 from nlti 1024 _ (by omega)), if_neg h]
  | q :: rest, pre, p, out, e, ho, hob => by
    have hlen : P.length = pre.length + 1 + 1 + rest.length := by rw [e]; simp; omega
    have hp1 : rd P (pre.length : Int) = p := by rw [e]; exact rd_app _ _ _
    have hq1 : rd P ((pre.length + 1 : Nat) : Int) = q := by
      have := rd_app (pre ++ [p]) rest q
      rw [show (pre ++ [p]) ++ q :: rest = P by rw [e]; simp, show (pre ++ [p]).length = pre.length + 1 by simp] at this
      exact this
    have hbq := hB q (by rw [e]; simp)
    have hl1 : out.length ≤ 100000 := by omega
    have hl2 : pre.length + 1 < P.length := by omega
    have hnext : (if cntH how (hasL a p) (hasL b p) = true then put out p q else out).length ≤ pre.length + 1 := by
      have := put_len out p q
      split <;> omega
    have hnob : OutB (if cntH how (hasL a p) (hasL b p) = true then put out p q else out) := by
      split
      · exact put_outB out p q hob hbq
      · exact hob
    have ih := made_go how a b la lb P hP hB rest (pre ++ [p]) q (if cntH how (hasL a p) (hasL b p) = true then put out p q else out) (by rw [e]; simp) (by simpa using hnext) hnob
    rw [show (pre ++ [p]).length = pre.length + 1 by simp] at ih
    have hstep : build (fun p => cntH how (hasL a p) (hasL b p)) (p :: q :: rest) out = build (fun p => cntH how (hasL a p) (hasL b p)) (q :: rest) (if cntH how (hasL a p) (hasL b p) = true then put out p q else out) := rfl
    rw [hstep]
    obtain ⟨K1, hK1⟩ := has_is a p la
    obtain ⟨K2, hK2⟩ := has_is b p lb
    obtain ⟨K3, hK3⟩ := ih
    dsimp only at hK1 hK2 hK3
    refine ⟨K1 + K2 + K3 + 1, fun k hk => ?_⟩
    obtain ⟨k, rfl⟩ : ∃ k', k = k' + 1 := ⟨k - 1, by omega⟩
    have g1 := hK1 k (by omega)
    have g2 := hK2 k (by omega)
    have g3 := hK3 k (by omega)
    show portcullisref02_Made.l0 (k + 1) how a b P out (pre.length : Int) = _
    rw [made_step k how a b P out pre.length p q hl2 hP hp1 hq1, g1]
    simp only [Option.bind_some]
    rw [g2]
    simp only [Option.bind_some]
    rw [counts_is]
    simp only [Option.bind_some]
    rw [mBody_is k how a b P out pre.length p q _ hl1 hob hbq]
    exact g3
/-- What two sets make. -/
def madeF (c2 : Bool → Bool → Bool) (a b : List Sp) : List Sp := build (fun p => c2 (hasL a p) (hasL b p)) (dedupA (sortP (allP a b))) []
def madeR (c2 : Bool → Bool → Bool) (a b : List Sp) : List Sp × Int := if chk a ≠ 0 then ([], chk a) else if chk b ≠ 0 then ([], chk b) else finM (madeF c2 a b)
theorem dedupA_sub : ∀ (l : List Int), ∀ x ∈ dedupA l, x ∈ l
  | [], x, h => h
  | [p], x, h => h
  | p :: q :: r, x, h => by
    unfold dedupA at h
    split at h
    · exact List.mem_cons_of_mem _ (dedupA_sub (q :: r) x h)
    · rcases List.mem_cons.1 h with rfl | h
      · simp
      · exact List.mem_cons_of_mem _ (dedupA_sub (q :: r) x h)
theorem dedupA_len : ∀ (l : List Int), (dedupA l).length ≤ l.length
  | [] => Nat.le_refl _
  | [p] => Nat.le_refl _
  | p :: q :: r => by
    have ih := dedupA_len (q :: r)
    unfold dedupA
    split
    · simp only [List.length_cons] at ih ⊢; omega
    · simp only [List.length_cons] at ih ⊢; omega
theorem allP_bound (a b : List Sp) (ha : ∀ s ∈ a, okS s) (hb : ∀ s ∈ b, okS s) : ∀ p ∈ allP a b, 0 ≤ p ∧ p ≤ 1114112 := by
  intro p hp
  unfold allP at hp
  rcases List.mem_append.1 hp with hp | hp
  · rcases List.mem_cons.1 hp with rfl | hp
    · omega
    · rw [List.mem_singleton.1 hp]; omega
  · unfold placesL at hp
    obtain ⟨s, hs, hm⟩ := List.mem_flatMap.1 hp
    have ho : okS s := (List.mem_append.1 hs).elim (ha s) (hb s)
    unfold okS at ho
    rcases List.mem_cons.1 hm with rfl | hm
    · omega
    · rw [List.mem_singleton.1 hm]; omega
theorem made_is (how : Int) (a b : List Sp) (la : a.length ≤ 100000) (lb : b.length ≤ 100000) : Ev (fun k => portcullisref02_Made.f k how a b) (madeR (cntH how) a b) := by
  unfold madeR
  obtain ⟨K1, hK1⟩ := check_is a la
  obtain ⟨K2, hK2⟩ := check_is b lb
  dsimp only at hK1 hK2
  by_cases h1 : chk a = 0
  · rw [if_neg (by simp [h1])]
    by_cases h2 : chk b = 0
    · rw [if_neg (by simp [h2])]
      obtain ⟨ha1, ha2⟩ := chk_ok h1
      obtain ⟨hb1, hb2⟩ := chk_ok h2
      obtain ⟨K3, hK3⟩ := edges_is a b ha2 hb2 ha1 hb1
      have hpl := placesL_len (a ++ b)
      have hlen : (dedupA (sortP (allP a b))).length ≤ 100000 := by
        have h3 := dedupA_len (sortP (allP a b))
        have h4 := (sortP_perm (allP a b)).length_eq
        have h5 : (allP a b).length = 2 + 2 * (a.length + b.length) := by
          unfold allP
          rw [List.length_append, hpl, List.length_append]
          rfl
        omega
      have hbd : ∀ p ∈ dedupA (sortP (allP a b)), 0 ≤ p ∧ p ≤ 1114112 := fun p hp => allP_bound a b ha2 hb2 p ((sortP_perm (allP a b)).mem_iff.1 (dedupA_sub _ p hp))
      have hne : dedupA (sortP (allP a b)) ≠ [] := by
        have h4 := (sortP_perm (allP a b)).length_eq
        cases hS : sortP (allP a b) with
        | nil => rw [hS] at h4; unfold allP at h4; simp at h4
        | cons x r => rw [dedupA_dd]; simp
      unfold madeF
      generalize dedupA (sortP (allP a b)) = P at hK3 hlen hbd hne
      obtain ⟨p, rest, rfl⟩ : ∃ p rest, P = p :: rest := by
        cases P with
        | nil => exact absurd rfl hne
        | cons p rest => exact ⟨p, rest, rfl⟩
      obtain ⟨K4, hK4⟩ := made_go how a b la lb (p :: rest) hlen hbd rest [] p [] rfl (Nat.le_refl _) (fun x hx => by simp at hx)
      dsimp only at hK3 hK4
      refine ⟨K1 + K2 + K3 + K4, fun k hk => ?_⟩
      have g1 := hK1 k (by omega)
      have g2 := hK2 k (by omega)
      have g3 := hK3 k (by omega)
      have g4 := hK4 k (by omega)
      show portcullisref02_Made.f k how a b = _
      unfold portcullisref02_Made.f
      rw [g1, h1]
      simp only [Option.bind_some]
      rw [if_pos trivial, g2, h2]
      simp only [Option.bind_some]
      rw [if_pos trivial, g3]
      simp only [Option.bind_some]
      exact g4
    · rw [if_pos h2]
      refine ⟨K1 + K2, fun k hk => ?_⟩
      show portcullisref02_Made.f k how a b = _
      unfold portcullisref02_Made.f
      rw [hK1 k (by omega), h1]
      simp only [Option.bind_some]
      rw [if_pos trivial, hK2 k (by omega)]
      simp only [Option.bind_some]
      rw [if_neg h2]
  · rw [if_pos h1]
    refine ⟨K1, fun k hk => ?_⟩
    show portcullisref02_Made.f k how a b = _
    unfold portcullisref02_Made.f
    rw [hK1 k hk]
    simp only [Option.bind_some]
    rw [if_neg h1]
end Go.Proofs.YtikhoooiklkbiaaDoor.Pr
namespace Go.Proofs.YtikhoooiklkbiaaDoor.Pr
open Go.RowKit Go.Proofs.YtikhoooiklkbiaaDoorW.PrintWords Go.Proofs.YtikhoooiklkbiaaDoorW.PrintLast Go.Proofs.YtikhoooiklkbiaaDoorW.PrintMore
set_option linter.unusedVariables false
set_option linter.unusedSimpArgs false

/-! ### Normal forms -/
def Nf (l : List Sp) : Prop := (∀ s ∈ l, okS s) ∧ l.Pairwise (fun s t => s.f1 + 1 < t.f0)
theorem hasL_cons (s : Sp) (l : List Sp) (r : Int) : hasL (s :: l) r = (decide (inS s r) || hasL l r) := rfl
theorem hasL_append (l m : List Sp) (r : Int) : hasL (l ++ m) r = (hasL l r || hasL m r) := by unfold hasL; rw [List.any_append]
theorem hasL_nil (r : Int) : hasL [] r = false := rfl
theorem hasL_true {l : List Sp} {r : Int} : hasL l r = true ↔ ∃ s ∈ l, inS s r := by
  unfold hasL
  rw [List.any_eq_true]
  exact ⟨fun ⟨s, h, e⟩ => ⟨s, h, of_decide_eq_true e⟩, fun ⟨s, h, e⟩ => ⟨s, h, decide_eq_true e⟩⟩
theorem hasL_out {l : List Sp} (h : ∀ s ∈ l, okS s) {r : Int} (hr : r < 0 ∨ 1114111 < r) : hasL l r = false := by
  rw [Bool.eq_false_iff]
  intro e
  obtain ⟨s, hs, hi⟩ := hasL_true.1 e
  have := h s hs
  unfold okS at this
  unfold inS at hi
  omega
/-- What a list of places counts. -/
def covB (cnt : Int → Bool) : List Int → Int → Bool
  | p :: q :: P, r => (decide (p ≤ r ∧ r < q) && cnt p) || covB cnt (q :: P) r
  | _, _ => false
def PutOk (out : List Sp) (p : Int) : Prop := Nf out ∧ ∀ s ∈ out, s.f1 + 1 ≤ p
theorem put_ok (out : List Sp) (p q : Int) (h : PutOk out p) (h0 : 0 ≤ p) (hpq : p < q) (hq : q ≤ 1114112) : PutOk (put out p q) q ∧ ∀ r, hasL (put out p q) r = (hasL out r || decide (p ≤ r ∧ r < q)) := by
  obtain ⟨⟨hok, hpw⟩, hle⟩ := h
  have hin : ∀ (a r : Int), decide (inS ⟨a, q - 1⟩ r) = decide (a ≤ r ∧ r < q) := fun a r => by
    unfold inS
    exact decide_eq_decide.2 ⟨fun h => ⟨h.1, by have := h.2; simp only at this; omega⟩, fun h => ⟨h.1, by simp only; omega⟩⟩
  rcases List.eq_nil_or_concat out with rfl | ⟨o, s, rfl⟩
  · rw [put_nil]
    refine ⟨⟨⟨fun x hx => ?_, List.pairwise_singleton _ _⟩, fun x hx => ?_⟩, fun r => ?_⟩
    · rw [List.mem_singleton.1 hx]; exact ⟨h0, by simp only; omega, by simp only; omega⟩
    · rw [List.mem_singleton.1 hx]; simp only; omega
    · rw [hasL_cons, hin]; simp [hasL_nil]
  · rw [List.concat_eq_append] at hok hpw hle ⊢
    have hs := hok s (by simp)
    have hsl := hle s (by simp)
    rw [List.pairwise_append] at hpw
    obtain ⟨hp1, _, hp3⟩ := hpw
    unfold okS at hs
    rw [put_snoc]
    split
    · next he =>
      refine ⟨⟨⟨fun x hx => ?_, ?_⟩, fun x hx => ?_⟩, fun r => ?_⟩
      · rcases List.mem_append.1 hx with hx | hx
        · exact hok x (List.mem_append_left _ hx)
        · rw [List.mem_singleton.1 hx]; exact ⟨hs.1, by simp only; omega, by simp only; omega⟩
      · rw [List.pairwise_append]
        refine ⟨hp1, List.pairwise_singleton _ _, fun x hx y hy => ?_⟩
        rw [List.mem_singleton.1 hy]
        exact hp3 x hx s (by simp)
      · rcases List.mem_append.1 hx with hx | hx
        · have := hle x (List.mem_append_left _ hx); omega
        · rw [List.mem_singleton.1 hx]; simp only; omega
      · rw [hasL_append, hasL_append, hasL_cons, hasL_cons, hin, hasL_nil, Bool.or_false, Bool.or_false, Bool.or_assoc]
        congr 1
        unfold inS
        by_cases h1 : s.f0 ≤ r ∧ r ≤ s.f1
        · rw [decide_eq_true h1, decide_eq_true (show s.f0 ≤ r ∧ r < q by omega)]; rfl
        · rw [decide_eq_false h1, Bool.false_or]
          exact decide_eq_decide.2 (by omega)
    · next he =>
      refine ⟨⟨⟨fun x hx => ?_, ?_⟩, fun x hx => ?_⟩, fun r => ?_⟩
      · rcases List.mem_append.1 hx with hx | hx
        · exact hok x hx
        · rw [List.mem_singleton.1 hx]; exact ⟨h0, by simp only; omega, by simp only; omega⟩
      · rw [List.pairwise_append]
        refine ⟨List.pairwise_append.2 ⟨hp1, List.pairwise_singleton _ _, hp3⟩, List.pairwise_singleton _ _, fun x hx y hy => ?_⟩
        rw [List.mem_singleton.1 hy]
        rcases List.mem_append.1 hx with hx | hx
        · have := hp3 x hx s (by simp); simp only; omega
        · rw [List.mem_singleton.1 hx]; simp only; omega
      · rcases List.mem_append.1 hx with hx | hx
        · have := hle x hx; omega
        · rw [List.mem_singleton.1 hx]; simp only; omega
      · rw [hasL_append, hasL_cons, hin, hasL_nil, Bool.or_false]
theorem PutOk.le {out : List Sp} {p q : Int} (h : PutOk out p) (hpq : p ≤ q) : PutOk out q := ⟨h.1, fun s hs => by have := h.2 s hs; omega⟩
/-- Strictly rising, within the code points. -/
def StrP (P : List Int) : Prop := P.Pairwise (· < ·) ∧ ∀ p ∈ P, 0 ≤ p ∧ p ≤ 1114112
theorem build_ok (cnt : Int → Bool) : ∀ (P : List Int) (out : List Sp), StrP P → (∀ p ∈ P.head?, PutOk out p) → (P = [] → Nf out) → Nf (build cnt P out) ∧ ∀ r, hasL (build cnt P out) r = (hasL out r || covB cnt P r)
  | [], out, hP, hh, hn => ⟨hn rfl, fun r => by simp [build, covB]⟩
  | [p], out, hP, hh, hn => ⟨(hh p rfl).1, fun r => by simp [build, covB]⟩
  | p :: q :: P, out, hP, hh, hn => by
    have hput := hh p rfl
    have hp := hP.2 p (by simp)
    have hq := hP.2 q (by simp)
    have hpq : p < q := (List.pairwise_cons.1 hP.1).1 q (by simp)
    have hP2 : StrP (q :: P) := ⟨(List.pairwise_cons.1 hP.1).2, fun x hx => hP.2 x (List.mem_cons_of_mem _ hx)⟩
    unfold build
    by_cases hc : cnt p = true
    · rw [if_pos hc]
      obtain ⟨h1, h2⟩ := put_ok out p q hput hp.1 hpq hq.2
      obtain ⟨h3, h4⟩ := build_ok cnt (q :: P) (put out p q) hP2 (fun x hx => by cases hx; exact h1) (fun e => by cases e)
      refine ⟨h3, fun r => ?_⟩
      rw [h4, h2]
      show _ = (hasL out r || ((decide (p ≤ r ∧ r < q) && cnt p) || covB cnt (q :: P) r))
      rw [hc, Bool.and_true, Bool.or_assoc]
    · rw [if_neg hc]
      obtain ⟨h3, h4⟩ := build_ok cnt (q :: P) out hP2 (fun x hx => by cases hx; exact hput.le (by omega)) (fun e => by cases e)
      refine ⟨h3, fun r => ?_⟩
      rw [h4]
      show _ = (hasL out r || ((decide (p ≤ r ∧ r < q) && cnt p) || covB cnt (q :: P) r))
      rw [Bool.eq_false_iff.2 hc, Bool.and_false, Bool.false_or]
/-- Between two places nothing changes. -/
theorem covB_is (cnt f : Int → Bool) : ∀ (P : List Int), StrP P → (∀ p q r, (∃ A B, P = A ++ p :: q :: B) → p ≤ r → r < q → f r = cnt p) → ∀ r, (∀ p ∈ P.head?, p ≤ r) → (∀ p ∈ P.getLast?, r < p) → covB cnt P r = if P = [] then false else f r
  | [], _, _, r, _, _ => rfl
  | [p], _, _, r, h1, h2 => by have := h1 p rfl; have := h2 p rfl; omega
  | p :: q :: P, hP, hf, r, h1, h2 => by
    have hpr := h1 p rfl
    have hpq : p < q := (List.pairwise_cons.1 hP.1).1 q (by simp)
    have hP2 : StrP (q :: P) := ⟨(List.pairwise_cons.1 hP.1).2, fun x hx => hP.2 x (List.mem_cons_of_mem _ hx)⟩
    show ((decide (p ≤ r ∧ r < q) && cnt p) || covB cnt (q :: P) r) = _
    rw [if_neg (by simp)]
    by_cases hr : r < q
    · rw [decide_eq_true ⟨hpr, hr⟩, Bool.true_and, hf p q r ⟨[], P, rfl⟩ hpr hr]
      have hz : covB cnt (q :: P) r = false := covB_front cnt (q :: P) hP2 r (fun x hx => by cases hx; exact hr)
      rw [hz, Bool.or_false]
    · rw [decide_eq_false (fun e => hr e.2), Bool.false_and, Bool.false_or]
      rw [covB_is cnt f (q :: P) hP2 (fun a b r' ⟨A, B, e⟩ => hf a b r' ⟨p :: A, B, by rw [e]; rfl⟩) r (fun x hx => by cases hx; omega) (fun x hx => h2 x (by rw [List.getLast?_cons_cons]; exact hx)), if_neg (by simp)]
where covB_front (cnt : Int → Bool) : ∀ (P : List Int), StrP P → ∀ r, (∀ p ∈ P.head?, r < p) → covB cnt P r = false
  | [], _, _, _ => rfl
  | [p], _, _, _ => rfl
  | p :: q :: P, hP, r, h => by
    have := h p rfl
    have hpq : p < q := (List.pairwise_cons.1 hP.1).1 q (by simp)
    show ((decide (p ≤ r ∧ r < q) && cnt p) || covB cnt (q :: P) r) = false
    rw [decide_eq_false (by omega), Bool.false_and, Bool.false_or]
    exact covB_front cnt (q :: P) ⟨(List.pairwise_cons.1 hP.1).2, fun x hx => hP.2 x (List.mem_cons_of_mem _ hx)⟩ r (fun x hx => by cases hx; omega)
theorem dedupA_str : ∀ (l : List Int), Sor l → (dedupA l).Pairwise (· < ·)
  | [], _ => List.Pairwise.nil
  | [p], _ => List.pairwise_singleton _ _
  | p :: q :: l, h => by
    have hq := (List.pairwise_cons.1 h)
    have ih := dedupA_str (q :: l) hq.2
    unfold dedupA
    split
    · exact ih
    · next hne =>
      rw [List.pairwise_cons]
      refine ⟨fun x hx => ?_, ih⟩
      have hxl := dedupA_sub _ x hx
      have h1 := hq.1 x hxl
      have h2 := hq.1 q (by simp)
      rcases List.mem_cons.1 hxl with rfl | hx2
      · omega
      · have := (List.pairwise_cons.1 hq.2).1 x hx2; omega
theorem dedupA_mem : ∀ (l : List Int), ∀ x ∈ l, x ∈ dedupA l
  | [], x, h => h
  | [p], x, h => h
  | p :: q :: l, x, h => by
    unfold dedupA
    split
    · next e =>
      rcases List.mem_cons.1 h with rfl | h
      · rw [e]; exact dedupA_mem (q :: l) q (by simp)
      · exact dedupA_mem (q :: l) x h
    · rcases List.mem_cons.1 h with rfl | h
      · exact List.mem_cons_self
      · exact List.mem_cons_of_mem _ (dedupA_mem (q :: l) x h)
theorem head_least {P : List Int} (h : P.Pairwise (· < ·)) {x : Int} (hx : x ∈ P) : ∀ p ∈ P.head?, p ≤ x := by
  intro p hp
  cases P with
  | nil => cases hx
  | cons a l =>
    cases hp
    rcases List.mem_cons.1 hx with rfl | hx
    · exact Int.le_refl _
    · exact Int.le_of_lt ((List.pairwise_cons.1 h).1 x hx)
theorem last_most : ∀ {P : List Int}, P.Pairwise (· < ·) → ∀ {x : Int}, x ∈ P → ∀ p ∈ P.getLast?, x ≤ p
  | [], _, x, hx, p, hp => by cases hx
  | [a], _, x, hx, p, hp => by cases hp; rw [List.mem_singleton.1 hx]; exact Int.le_refl _
  | a :: b :: l, h, x, hx, p, hp => by
    rw [List.getLast?_cons_cons] at hp
    have h2 := List.pairwise_cons.1 h
    rcases List.mem_cons.1 hx with rfl | hx
    · have := last_most h2.2 (List.mem_cons_self : b ∈ b :: l) p hp
      have := h2.1 b (by simp)
      omega
    · exact last_most h2.2 hx p hp
theorem mem_places {l : List Sp} {s : Sp} (h : s ∈ l) : s.f0 ∈ placesL l ∧ s.f1 + 1 ∈ placesL l := by
  unfold placesL
  exact ⟨List.mem_flatMap.2 ⟨s, h, by simp⟩, List.mem_flatMap.2 ⟨s, h, by simp⟩⟩
theorem no_between {P : List Int} (h : P.Pairwise (· < ·)) {p q x : Int} (hs : ∃ A B, P = A ++ p :: q :: B) (hx : x ∈ P) : x ≤ p ∨ q ≤ x := by
  obtain ⟨A, B, rfl⟩ := hs
  rw [List.pairwise_append] at h
  obtain ⟨_, h2, h3⟩ := h
  rcases List.mem_append.1 hx with hx | hx
  · exact .inl (Int.le_of_lt (h3 x hx p (by simp)))
  · rcases List.mem_cons.1 hx with rfl | hx
    · exact .inl (Int.le_refl _)
    · rcases List.mem_cons.1 hx with rfl | hx
      · exact .inr (Int.le_refl _)
      · exact .inr (Int.le_of_lt ((List.pairwise_cons.1 (List.pairwise_cons.1 h2).2).1 x hx))
theorem hasL_const {P : List Int} (h : P.Pairwise (· < ·)) {l : List Sp} (hl : ∀ x ∈ placesL l, x ∈ P) {p q r : Int} (hs : ∃ A B, P = A ++ p :: q :: B) (h1 : p ≤ r) (h2 : r < q) : hasL l r = hasL l p := by
  have key : ∀ s ∈ l, (inS s r ↔ inS s p) := fun s hm => by
    obtain ⟨ha, hb⟩ := mem_places hm
    have h3 := no_between h hs (hl _ ha)
    have h4 := no_between h hs (hl _ hb)
    unfold inS
    omega
  unfold hasL
  rw [Bool.eq_iff_iff, List.any_eq_true, List.any_eq_true]
  exact ⟨fun ⟨s, hm, e⟩ => ⟨s, hm, decide_eq_true ((key s hm).1 (of_decide_eq_true e))⟩, fun ⟨s, hm, e⟩ => ⟨s, hm, decide_eq_true ((key s hm).2 (of_decide_eq_true e))⟩⟩
/-- The normal form of what two sets make: it is one, and has just what counts. -/
theorem made_nf (c2 : Bool → Bool → Bool) (a b : List Sp) (ha : ∀ s ∈ a, okS s) (hb : ∀ s ∈ b, okS s) : Nf (madeF c2 a b) ∧ ∀ r, hasL (madeF c2 a b) r = if 0 ≤ r ∧ r ≤ 1114111 then c2 (hasL a r) (hasL b r) else false := by
  have hstr : (dedupA (sortP (allP a b))).Pairwise (· < ·) := dedupA_str _ (sortP_sor _)
  have hmem : ∀ x ∈ allP a b, x ∈ dedupA (sortP (allP a b)) := fun x hx => dedupA_mem _ x ((sortP_perm _).mem_iff.2 hx)
  have hbd : ∀ p ∈ dedupA (sortP (allP a b)), 0 ≤ p ∧ p ≤ 1114112 := fun p hp => allP_bound a b ha hb p ((sortP_perm _).mem_iff.1 (dedupA_sub _ p hp))
  have h0 := hmem 0 (by simp [allP])
  have h1 := hmem 1114112 (by simp [allP])
  have hpa : ∀ x ∈ placesL a, x ∈ dedupA (sortP (allP a b)) := fun x hx => hmem x (by unfold allP placesL; rw [List.flatMap_append]; exact List.mem_append_right _ (List.mem_append_left _ hx))
  have hpb : ∀ x ∈ placesL b, x ∈ dedupA (sortP (allP a b)) := fun x hx => hmem x (by unfold allP placesL; rw [List.flatMap_append]; exact List.mem_append_right _ (List.mem_append_right _ hx))
  unfold madeF
  generalize dedupA (sortP (allP a b)) = P at *
  have hne : P ≠ [] := fun e => by rw [e] at h0; cases h0
  have hS : StrP P := ⟨hstr, hbd⟩
  have hnil : Nf [] := ⟨fun s hs => (List.not_mem_nil hs).elim, List.Pairwise.nil⟩
  obtain ⟨h2, h3⟩ := build_ok (fun p => c2 (hasL a p) (hasL b p)) P [] hS (fun p _ => ⟨hnil, fun s hs => by cases hs⟩) (fun e => absurd e hne)
  refine ⟨h2, fun r => ?_⟩
  by_cases hr : 0 ≤ r ∧ r ≤ 1114111
  · rw [if_pos hr, h3, hasL_nil, Bool.false_or]
    rw [covB_is _ (fun r => c2 (hasL a r) (hasL b r)) P hS (fun p q r' hs h4 h5 => by rw [hasL_const hstr hpa hs h4 h5, hasL_const hstr hpb hs h4 h5]) r (fun p hp => Int.le_trans (head_least hstr h0 p hp) hr.1) (fun p hp => by have := last_most hstr h1 p hp; omega), if_neg hne]
  · rw [if_neg hr]
    exact hasL_out h2.1 (by omega)
/-- A set has one normal form. -/
theorem nf_unique : ∀ (l m : List Sp), Nf l → Nf m → (∀ r, hasL l r = hasL m r) → l = m
  | [], [], _, _, _ => rfl
  | [], t :: m, _, hm, h => by
    have ht := hm.1 t (by simp)
    unfold okS at ht
    have := h t.f0
    rw [hasL_cons, hasL_nil, decide_eq_true (show inS t t.f0 from ⟨Int.le_refl _, ht.2.1⟩)] at this
    cases this
  | s :: l, [], hl, _, h => by
    have hs := hl.1 s (by simp)
    unfold okS at hs
    have := h s.f0
    rw [hasL_cons, hasL_nil, decide_eq_true (show inS s s.f0 from ⟨Int.le_refl _, hs.2.1⟩)] at this
    cases this
  | s :: l, t :: m, hl, hm, h => by
    have hs := hl.1 s (by simp)
    have ht := hm.1 t (by simp)
    have hl2 : Nf l := ⟨fun x hx => hl.1 x (List.mem_cons_of_mem _ hx), (List.pairwise_cons.1 hl.2).2⟩
    have hm2 : Nf m := ⟨fun x hx => hm.1 x (List.mem_cons_of_mem _ hx), (List.pairwise_cons.1 hm.2).2⟩
    have hlp := (List.pairwise_cons.1 hl.2).1
    have hmp := (List.pairwise_cons.1 hm.2).1
    unfold okS at hs ht
    have front : ∀ (x : Sp) (k : List Sp), (∀ y ∈ k, x.f1 + 1 < y.f0) → ∀ r, r ≤ x.f1 + 1 → hasL k r = false := fun x k hk r hr => by
      rw [Bool.eq_false_iff]
      intro e
      obtain ⟨y, hy, hi⟩ := hasL_true.1 e
      have := hk y hy
      unfold inS at hi
      omega
    have low : ∀ (x : Sp) (k : List Sp) (r : Int), x.f0 ≤ x.f1 → (∀ y ∈ k, x.f1 + 1 < y.f0) → hasL (x :: k) r = true → x.f0 ≤ r := fun x k r hx hk e => by
      obtain ⟨y, hy, hi⟩ := hasL_true.1 e
      unfold inS at hi
      rcases List.mem_cons.1 hy with rfl | hy
      · exact hi.1
      · have := hk y hy; omega
    have e0 : s.f0 = t.f0 := by
      have h1 : hasL (t :: m) s.f0 = true := by rw [← h]; exact hasL_true.2 ⟨s, by simp, Int.le_refl _, hs.2.1⟩
      have h2 : hasL (s :: l) t.f0 = true := by rw [h]; exact hasL_true.2 ⟨t, by simp, Int.le_refl _, ht.2.1⟩
      have := low t m s.f0 ht.2.1 hmp h1
      have := low s l t.f0 hs.2.1 hlp h2
      omega
    have e1 : s.f1 = t.f1 := by
      rcases Int.lt_trichotomy s.f1 t.f1 with hlt | heq | hgt
      · exfalso
        have h1 : hasL (s :: l) (s.f1 + 1) = true := by rw [h]; exact hasL_true.2 ⟨t, by simp, by omega, by omega⟩
        rw [hasL_cons, front s l hlp (s.f1 + 1) (Int.le_refl _), Bool.or_false] at h1
        have := (of_decide_eq_true h1).2
        omega
      · exact heq
      · exfalso
        have h1 : hasL (t :: m) (t.f1 + 1) = true := by rw [← h]; exact hasL_true.2 ⟨s, by simp, by omega, by omega⟩
        rw [hasL_cons, front t m hmp (t.f1 + 1) (Int.le_refl _), Bool.or_false] at h1
        have := (of_decide_eq_true h1).2
        omega
    have est : s = t := by cases s; cases t; simp only at e0 e1; rw [e0, e1]
    subst est
    rw [nf_unique l m hl2 hm2 (fun r => by
      by_cases hr : r ≤ s.f1 + 1
      · rw [front s l hlp r hr, front s m hmp r hr]
      · have := h r
        rw [hasL_cons, hasL_cons, decide_eq_false (fun e : inS s r => by have := e.2; omega), Bool.false_or, Bool.false_or] at this
        exact this)]
theorem build_len (cnt : Int → Bool) : ∀ (P : List Int) (out : List Sp), (build cnt P out).length ≤ out.length + P.length
  | [], out => by simp [build]
  | [p], out => by simp [build]
  | p :: q :: P, out => by
    unfold build
    have hl := put_len out p q
    by_cases hc : cnt p = true
    · rw [if_pos hc]
      have ih := build_len cnt (q :: P) (put out p q)
      simp only [List.length_cons] at *
      omega
    · rw [if_neg hc]
      have ih := build_len cnt (q :: P) out
      simp only [List.length_cons] at *
      omega
theorem madeF_len (c2 : Bool → Bool → Bool) (a b : List Sp) : (madeF c2 a b).length ≤ 2 * a.length + 2 * b.length + 2 := by
  unfold madeF
  have h1 := build_len (fun p => c2 (hasL a p) (hasL b p)) (dedupA (sortP (allP a b))) []
  have h2 := dedupA_len (sortP (allP a b))
  have h3 : (sortP (allP a b)).length = (allP a b).length := (sortP_perm _).length_eq
  have h4 : (allP a b).length = 2 * a.length + 2 * b.length + 2 := by
    unfold allP
    rw [List.length_append, placesL_len]
    simp
    omega
  simp only [List.length_nil] at h1
  omega
theorem madeR_ok {c2 : Bool → Bool → Bool} {a b : List Sp} (ha : chk a = 0) (hb : chk b = 0) (hl : (madeF c2 a b).length ≤ 1024) : madeR c2 a b = (madeF c2 a b, 0) := by
  unfold madeR finM
  rw [if_neg (by simp [ha]), if_neg (by simp [hb]), if_neg (by omega)]
theorem chk_nil : chk [] = 0 := by unfold chk; rw [if_neg (by simp), if_pos (fun s hs => by cases hs)]
theorem chk_of {l : List Sp} (h : ∀ s ∈ l, okS s) (hl : l.length ≤ 1024) : chk l = 0 := by unfold chk; rw [if_neg (by omega), if_pos h]
/-- A normal form is its own. -/
theorem madeF_self (c2 : Bool → Bool → Bool) (hc : ∀ x, c2 x false = x) (l : List Sp) (h : Nf l) : madeF c2 l [] = l := by
  have hm := made_nf c2 l [] h.1 (fun s hs => by cases hs)
  refine nf_unique _ _ hm.1 h (fun r => ?_)
  rw [hm.2]
  split
  · rw [hasL_nil, hc]
  · next hr => rw [hasL_out h.1 (by omega)]
theorem madeR_self (c2 : Bool → Bool → Bool) (hc : ∀ x, c2 x false = x) (l : List Sp) (h : Nf l) (hl : l.length ≤ 1024) : madeR c2 l [] = (l, 0) := by
  have e := madeF_self c2 hc l h
  rw [madeR_ok (chk_of h.1 hl) chk_nil (by rw [e]; exact hl), e]
theorem madeR_congr {c d : Bool → Bool → Bool} (h : ∀ x, c x false = d x false) (l : List Sp) : madeR c l [] = madeR d l [] := by
  have e : madeF c l [] = madeF d l [] := by
    unfold madeF
    have : (fun p => c (hasL l p) (hasL [] p)) = fun p => d (hasL l p) (hasL [] p) := by funext p; rw [hasL_nil, h]
    rw [this]
  unfold madeR
  rw [e]
/-- What comes out of madeR: a normal form, and an error's number. -/
theorem madeR_nf (c2 : Bool → Bool → Bool) (a b : List Sp) : Nf (madeR c2 a b).1 ∧ (madeR c2 a b).1.length ≤ 1024 := by
  have hnil : Nf [] := ⟨fun s hs => (List.not_mem_nil hs).elim, List.Pairwise.nil⟩
  unfold madeR finM
  split
  · exact ⟨hnil, by simp⟩
  · next ha =>
    split
    · exact ⟨hnil, by simp⟩
    · next hb =>
      split
      · exact ⟨hnil, by simp⟩
      · next hl => exact ⟨(made_nf c2 a b (chk_ok (Decidable.not_not.1 ha)).2 (chk_ok (Decidable.not_not.1 hb)).2).1, by simp only; omega⟩
end Go.Proofs.YtikhoooiklkbiaaDoor.Pr
