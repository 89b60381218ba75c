import Derived.Test.YtanpephfnjnfoaaDoorZNJC
import Derived.Test.YtanpephfnjnfoaaDoorZNJB
import Derived.Lib.ConvBytes
import Derived.IntWalk
import Derived.Lib.Hide
import Derived.Test.YtanpephfnjnfoaaDoorZNJD
import Derived.Test.YtanpephfnjnfoaaDoorZNJE
section
namespace Go.Proofs.YtanpephfnjnfoaaDoor.Pr
set_option linter.unusedVariables false
set_option linter.unusedSimpArgs false

def prU (a b : Int) : Int × Bool := ((ofP fun x => x.f1 == a && x.f2 == b).1.f0, (ofP fun x => x.f1 == a && x.f2 == b).2)
theorem prU_f (a b : Int) : unidata_Pair.f a b = some (prU a b) := rfl
theorem pair_tab : ((uP0 ++ uP1).all fun p => clsU p.f0 == 0 && clsU p.f2 != 0 && decU p.f0 == [p.f1, p.f2]) = true := by decide +kernel
theorem pair_in {a b : Int} (h : (prU a b).2 = true) : clsU (prU a b).1 = 0 ∧ clsU b ≠ 0 ∧ decU (prU a b).1 = [a, b] := by
  unfold prU at h ⊢
  unfold ofP at h ⊢
  cases hf : (uP0 ++ uP1).find? (fun x => x.f1 == a && x.f2 == b) with
  | none => rw [hf] at h; exact absurd h (by decide)
  | some p =>
    have h1 := List.all_eq_true.1 pair_tab p (List.mem_of_find?_eq_some hf)
    have h2 := List.find?_some hf
    simp only [Bool.and_eq_true, beq_iff_eq, bne_iff_ne] at h1 h2
    obtain ⟨rfl, rfl⟩ := h2
    exact ⟨h1.1.1, h1.1.2, h1.2⟩
theorem pts_zero : (ptsU.all fun r => clsU r == 0 && clsU ((apartK 4 r).headD 0) == 0) = true := by decide +kernel
/-- What one of class 0 is taken apart into begins with one of class 0. -/
theorem apart_head {r : Int} (h : clsU r = 0) : ∃ z t, apartK 4 r = z :: t ∧ clsU z = 0 := by
  have hn := apart_ne 4 r
  cases e : apartK 4 r with
  | nil => rw [e] at hn; simp at hn
  | cons z t =>
    refine ⟨z, t, rfl, ?_⟩
    by_cases hm : r ∈ ptsU
    · have := List.all_eq_true.1 pts_zero r hm
      simp only [Bool.and_eq_true, beq_iff_eq] at this
      rw [e] at this
      exact this.2
    · rw [apartK_nil (decU_pts hm)] at e
      injection e with e1 _
      rw [← e1]; exact h

def Fd (l : List Int) : Prop := ∀ y ∈ l, decU y = []
theorem ordM_len (l : List Int) : (ordM clsU l).length = l.length := (ordM_perm clsU l).length_eq

def cpsU : List Int → List Int → Option Int → List Int → Int → List Int
  | [], done, none, seg, _ => done ++ seg
  | [], done, some s, seg, _ => done ++ s :: seg
  | r :: t, done, some s, seg, last => if (seg = [] ∨ (last ≠ 0 ∧ last < clsU r)) ∧ (prU s r).2 = true then cpsU t done (some (prU s r).1) seg last
      else if clsU r = 0 then cpsU t (done ++ s :: seg) (some r) [] 0 else cpsU t done (some s) (seg ++ [r]) (clsU r)
  | r :: t, done, none, seg, last => if clsU r = 0 then cpsU t (done ++ seg) (some r) [] 0 else cpsU t done none (seg ++ [r]) (clsU r)
/-- prev: the class of what stood ahead. -/
def OkL : Int → List Int → Prop
  | _, [] => True
  | p, r :: t => (clsU r = 0 ∨ p ≤ clsU r) ∧ OkL (clsU r) t
def whole (done : List Int) (st : Option Int) (seg rest : List Int) : List Int := done ++ (st.toList ++ (seg ++ rest))
theorem cmp_len : ∀ (rest done : List Int) (st : Option Int) (seg : List Int) (last : Int), (cpsU rest done st seg last).length ≤ (whole done st seg rest).length
  | [], done, none, seg, _ => by simp [cpsU, whole]
  | [], done, some s, seg, _ => by simp [cpsU, whole]
  | r :: t, done, some s, seg, last => by
    rw [cpsU]
    split
    · have := cmp_len t done (some (prU s r).1) seg last
      simp only [whole, List.length_append, Option.toList_some, List.length_cons, List.length_nil] at this ⊢
      omega
    · split
      · have := cmp_len t (done ++ s :: seg) (some r) [] 0
        simp only [whole, List.length_append, Option.toList_some, List.length_cons, List.length_nil] at this ⊢
        omega
      · have := cmp_len t done (some s) (seg ++ [r]) (clsU r)
        simp only [whole, List.length_append, Option.toList_some, List.length_cons, List.length_nil] at this ⊢
        omega
  | r :: t, done, none, seg, last => by
    rw [cpsU]
    split
    · have := cmp_len t (done ++ seg) (some r) [] 0
      simp only [whole, List.length_append, Option.toList_some, Option.toList_none, List.length_cons, List.length_nil] at this ⊢
      omega
    · have := cmp_len t done none (seg ++ [r]) (clsU r)
      simp only [whole, List.length_append, Option.toList_none, List.length_cons, List.length_nil] at this ⊢
      omega
structure CmpI (seg rest : List Int) (last prev : Int) : Prop where
  fd : Fd (seg ++ rest)
  nz : ∀ y ∈ seg, clsU y ≠ 0
  le : ∀ y ∈ seg, clsU y ≤ last
  lp : last ≤ prev
  ok : OkL prev rest
theorem CmpI.zero {seg t : List Int} {r last prev : Int} (h : CmpI seg (r :: t) last prev) (hz : clsU r = 0) : CmpI [] t 0 0 := by
  have := h.ok.2
  rw [hz] at this
  exact ⟨fun y hy => h.fd y (by simp at hy; simp [hy]), fun y hy => by simp at hy, fun y hy => by simp at hy, Int.le_refl _, this⟩
theorem CmpI.push {seg t : List Int} {r last prev : Int} (h : CmpI seg (r :: t) last prev) (hz : clsU r ≠ 0) : CmpI (seg ++ [r]) t (clsU r) (clsU r) := by
  have h1 : prev ≤ clsU r := h.ok.1.resolve_left hz
  refine ⟨fun y hy => h.fd y (by simpa using hy), fun y hy => ?_, fun y hy => ?_, Int.le_refl _, h.ok.2⟩
  · rcases List.mem_append.1 hy with hy | hy
    · exact h.nz y hy
    · rw [List.mem_singleton.1 hy]; exact hz
  · rcases List.mem_append.1 hy with hy | hy
    · have := h.le y hy; have := h.lp; omega
    · rw [List.mem_singleton.1 hy]; exact Int.le_refl _
theorem CmpI.take {seg t : List Int} {r last prev : Int} (h : CmpI seg (r :: t) last prev) (hz : clsU r ≠ 0) : CmpI seg t last (clsU r) :=
  ⟨fun y hy => h.fd y (by rcases List.mem_append.1 hy with h | h <;> simp [h]), h.nz, h.le, by have := h.ok.1.resolve_left hz; have := h.lp; omega, h.ok.2⟩
theorem apL_cons (x : Int) (l : List Int) : apL (x :: l) = apartK 4 x ++ apL l := rfl
/-- A row's normal forms. -/
def nfdU (l : List Int) : List Int := ordM clsU (apL l)
def nfcU (l : List Int) : List Int := cpsU (nfdU l) [] none [] 0
theorem nfc_len (l : List Int) : (nfcU l).length ≤ (nfdU l).length := by
  have := cmp_len (nfdU l) [] none [] 0
  unfold nfcU
  simpa [whole] using this
theorem nfd_len (l : List Int) : (nfdU l).length ≤ 16 * l.length := by
  have := apL_len l
  unfold nfdU
  rw [ordM_len]; exact this

theorem insR_last (x z : Int) (hz : clsU z = 0) : ∀ s : List Int, ∃ s', insR clsU (s ++ [z]) x = s' ++ [z]
  | [] => ⟨[x], by
    have h : ¬ (clsU x ≠ 0 ∧ clsU x < clsU z) := by have := clsU_pos x; omega
    show insR clsU [z] x = _
    simp only [insR, if_neg h]
    rfl⟩
  | y :: s => by
    show ∃ s', insR clsU (y :: (s ++ [z])) x = s' ++ [z]
    simp only [insR]
    split
    · obtain ⟨s', e⟩ := insR_last x z hz s
      exact ⟨y :: s', by rw [e]; rfl⟩
    · exact ⟨x :: y :: s, by simp⟩
theorem ordR_wall (z : Int) (hz : clsU z = 0) (acc : List Int) : ∀ (l s : List Int), ordR clsU (s ++ z :: acc) l = ordR clsU (s ++ [z]) l ++ acc
  | [], s => by show s ++ z :: acc = (s ++ [z]) ++ acc; simp
  | x :: l, s => by
    show ordR clsU (insR clsU (s ++ z :: acc) x) l = ordR clsU (insR clsU (s ++ [z]) x) l ++ acc
    rw [insR_wall clsU x z hz clsU_pos acc s]
    obtain ⟨s', e⟩ := insR_last x z hz s
    rw [e, List.append_assoc]
    exact ordR_wall z hz acc l s'
theorem ordR_last (z : Int) (hz : clsU z = 0) : ∀ (l s : List Int), ∃ s', ordR clsU (s ++ [z]) l = s' ++ [z]
  | [], s => ⟨s, rfl⟩
  | x :: l, s => by
    obtain ⟨s', e⟩ := insR_last x z hz s
    show ∃ s', ordR clsU (insR clsU (s ++ [z]) x) l = s' ++ [z]
    rw [e]
    exact ordR_last z hz l s'
theorem ordM_join (x y : List Int) (z : Int) (hz : clsU z = 0) : ordM clsU (x ++ z :: y) = ordM clsU x ++ ordM clsU (z :: y) := by
  have hi : insR clsU (ordR clsU [] x) z = z :: ordR clsU [] x := by
    cases ordR clsU [] x with
    | nil => rfl
    | cons a t => unfold insR; rw [if_neg (fun h => h.1 hz)]
  unfold ordM
  rw [ordR_app]
  show (ordR clsU (insR clsU (ordR clsU [] x) z) y).reverse = _
  rw [hi]
  have := ordR_wall z hz (ordR clsU [] x) y []
  rw [List.nil_append, List.nil_append] at this
  rw [this, List.reverse_append]
  rfl
theorem ordM_head (y : List Int) (z : Int) (hz : clsU z = 0) : ∃ t, ordM clsU (z :: y) = z :: t := by
  obtain ⟨s', e⟩ := ordR_last z hz y []
  unfold ordM
  show ∃ t, (ordR clsU [z] y).reverse = z :: t
  rw [List.nil_append] at e
  rw [e]
  exact ⟨s'.reverse, by simp⟩
theorem cmp_shift : ∀ (rest X done : List Int) (st : Option Int) (seg : List Int) (last : Int), cpsU rest (X ++ done) st seg last = X ++ cpsU rest done st seg last
  | [], X, done, none, seg, _ => by simp [cpsU]
  | [], X, done, some s, seg, _ => by simp [cpsU]
  | r :: t, X, done, some s, seg, last => by
    rw [cpsU, cpsU]
    split
    · exact cmp_shift t X done _ _ _
    · split
      · rw [List.append_assoc]; exact cmp_shift t X _ _ _ _
      · exact cmp_shift t X done _ _ _
  | r :: t, X, done, none, seg, last => by
    rw [cpsU, cpsU]
    split
    · rw [List.append_assoc]; exact cmp_shift t X _ _ _ _
    · exact cmp_shift t X done _ _ _
theorem cmp_join (z : Int) (t : List Int) (hz : clsU z = 0) : ∀ (da done : List Int) (st : Option Int) (seg : List Int) (last : Int), cpsU (da ++ z :: t) done st seg last = cpsU da done st seg last ++ cpsU (z :: t) [] none [] 0
  | [], done, none, seg, last => by
    have e : cpsU (z :: t) [] none [] 0 = cpsU t [] (some z) [] 0 := by rw [cpsU, if_pos hz]; rfl
    have e3 : cpsU (z :: t) done none seg last = cpsU t (done ++ seg) (some z) [] 0 := by rw [cpsU, if_pos hz]
    rw [e, List.nil_append, e3]
    have := cmp_shift t (done ++ seg) [] (some z) [] 0
    rw [List.append_nil] at this
    rw [this]; simp [cpsU]
  | [], done, some s, seg, last => by
    have e : cpsU (z :: t) [] none [] 0 = cpsU t [] (some z) [] 0 := by rw [cpsU, if_pos hz]; rfl
    have e3 : cpsU (z :: t) done (some s) seg last = cpsU t (done ++ s :: seg) (some z) [] 0 := by rw [cpsU, if_neg (fun h => (pair_in h.2).2.1 hz), if_pos hz]
    rw [e, List.nil_append, e3]
    have := cmp_shift t (done ++ s :: seg) [] (some z) [] 0
    rw [List.append_nil] at this
    rw [this]; simp [cpsU]
  | r :: da, done, some s, seg, last => by
    rw [List.cons_append, cpsU, cpsU]
    split
    · exact cmp_join z t hz da _ _ _ _
    · split
      · exact cmp_join z t hz da _ _ _ _
      · exact cmp_join z t hz da _ _ _ _
  | r :: da, done, none, seg, last => by
    rw [List.cons_append, cpsU, cpsU]
    split
    · exact cmp_join z t hz da _ _ _ _
    · exact cmp_join z t hz da _ _ _ _
theorem nfd_join (a b : List Int) (h : ∀ x, b.head? = some x → clsU x = 0) : nfdU (a ++ b) = nfdU a ++ nfdU b := by
  unfold nfdU
  rw [apL_append]
  cases b with
  | nil => show ordM clsU (apL a ++ []) = ordM clsU (apL a) ++ []; rw [List.append_nil, List.append_nil]
  | cons x b =>
    obtain ⟨z, t, e, hz⟩ := apart_head (h x rfl)
    rw [apL_cons, e, List.cons_append]
    exact ordM_join _ _ z hz
theorem nfc_join (a b : List Int) (h : ∀ x, b.head? = some x → clsU x = 0) : nfcU (a ++ b) = nfcU a ++ nfcU b := by
  unfold nfcU
  rw [nfd_join a b h]
  cases b with
  | nil => simp [nfdU, apL, ordM, ordR, cpsU]
  | cons x b =>
    obtain ⟨z, t, e, hz⟩ := apart_head (h x rfl)
    have e2 : nfdU (x :: b) = ordM clsU (z :: (t ++ apL b)) := by unfold nfdU; rw [apL_cons, e, List.cons_append]
    obtain ⟨t2, e3⟩ := ordM_head (t ++ apL b) z hz
    rw [e2, e3]
    exact cmp_join z t2 hz _ _ _ _ _
end Go.Proofs.YtanpephfnjnfoaaDoor.Pr
end

section
namespace Go.Proofs.YtanpephfnjnfoaaDoor.Pr
open Go.RowKit Go.Proofs.YtanpephfnjnfoaaDoorW.PrintWords Go.Proofs.YtanpephfnjnfoaaDoorW.PrintLast Go.Proofs.YtanpephfnjnfoaaDoorW.PrintMore
set_option linter.unusedVariables false
set_option linter.unusedSimpArgs false

def Ev {α : Type} (f : Nat → Option α) (r : α) : Prop := ∃ K, ∀ k, K ≤ k → f k = some r
theorem Ev.step {α : Type} {f g : Nat → Option α} {r : α} (h : ∀ k, g (k + 1) = f k) (hf : Ev f r) : Ev g r := by
  obtain ⟨K, hK⟩ := hf
  refine ⟨K + 1, fun k hk => ?_⟩
  obtain ⟨k, rfl⟩ : ∃ k', k = k' + 1 := ⟨k - 1, by omega⟩
  rw [h]
  exact hK k (by omega)
theorem Ev.one {α : Type} {g : Nat → Option α} {r : α} (h : ∀ k, g (k + 1) = some r) : Ev g r := ⟨1, fun k hk => by
  obtain ⟨k, rfl⟩ : ∃ k', k = k' + 1 := ⟨k - 1, by omega⟩
  exact h k⟩
theorem Ev.bind {α β : Type} {f : Nat → Option α} {F : Nat → α → Option β} {a : α} {r : β} (hf : Ev f a) (hF : Ev (fun k => F k a) r) : Ev (fun k => (f k).bind (F k)) r := by
  obtain ⟨K, hK⟩ := hf
  obtain ⟨M, hM⟩ := hF
  refine ⟨K + M, fun k hk => ?_⟩
  show (f k).bind (F k) = _
  rw [hK k (by omega)]
  exact hM k (by omega)
theorem Ev.of_eq {α : Type} {f g : Nat → Option α} {r : α} (h : ∀ k, f k = g k) (hg : Ev g r) : Ev f r := by
  obtain ⟨K, hK⟩ := hg
  exact ⟨K, fun k hk => by rw [h]; exact hK k hk⟩
theorem Ev.ex {α : Type} {f : Nat → Option α} {r : α} (h : Ev f r) : ∃ k, f k = some r := by
  obtain ⟨K, hK⟩ := h
  exact ⟨K, hK K (Nat.le_refl _)⟩
theorem Ev.now {α : Type} {f : Nat → Option α} {r : α} (h : ∀ k, f k = some r) : Ev f r := ⟨0, fun k _ => h k⟩
theorem w64n (i : Nat) (h : i ≤ 2147483648) : wrap64 ((i : Int) + 1) = ((i + 1 : Nat) : Int) := by
  rw [IntWalk.wrap64_in _ (by omega)]; omega
theorem w64p (i : Nat) (h0 : 0 < i) (h : i ≤ 2147483648) : wrap64 ((i : Int) - 1) = ((i - 1 : Nat) : Int) := by
  rw [IntWalk.wrap64_in _ (by omega)]; omega
theorem rd_app (A B : List Int) (x : Int) : rd (A ++ x :: B) (A.length : Int) = x := by
  simp [rd, List.getD]
end Go.Proofs.YtanpephfnjnfoaaDoor.Pr
end

section
namespace Go.Proofs.YtanpephfnjnfoaaDoor.Pr
open Go.RowKit Go.Proofs.YtanpephfnjnfoaaDoorW.PrintWords Go.Proofs.YtanpephfnjnfoaaDoorW.PrintLast Go.Proofs.YtanpephfnjnfoaaDoorW.PrintMore
set_option linter.unusedVariables false
set_option linter.unusedSimpArgs false

theorem Ev.of_mono {α : Type} {f : Nat → Option α} {r : α} (hm : ∀ k, LeO (f k) (f (k + 1))) (K : Nat) (h : f K = some r) : Ev f r := by
  refine ⟨K, fun k hk => ?_⟩
  induction k with
  | zero => obtain rfl : K = 0 := by omega
            exact h
  | succ k ih =>
    by_cases e : K = k + 1
    · rw [← e]; exact h
    · exact hm k _ (ih (by omega))
theorem same_l0 : ∀ (a b pa pb : List Int) (A B : List Int), A = pa ++ a → B = pb ++ b → pa.length = pb.length → a.length = b.length → A.length ≤ 1000000 → Ev (fun k => portcullisref04_Same.l0 k A B (pa.length : Int)) (decide (a = b))
  | [], [], pa, pb, A, B, hA, hB, hl, hab, hn => Ev.one fun k => by
    rw [portcullisref04_Same.l0, if_neg (by rw [hA]; simp)]; rfl
  | x :: a, y :: b, pa, pb, A, B, hA, hB, hl, hab, hn => by
    have hx : rd A (pa.length : Int) = x := by rw [hA]; exact rd_app pa a x
    have hy : rd B (pa.length : Int) = y := by rw [hB, hl]; exact rd_app pb b y
    have hla : A.length = pa.length + (a.length + 1) := by rw [hA]; simp
    have hlb : B.length = pb.length + (b.length + 1) := by rw [hB]; simp
    have hab' : a.length = b.length := by simpa using hab
    have hs : ∀ k, portcullisref04_Same.l0 (k + 1) A B (pa.length : Int) = if x = y then portcullisref04_Same.l0 k A B (((pa ++ [x]).length : Nat) : Int) else some false := fun k => by
      rw [portcullisref04_Same.l0, if_pos (by omega), if_pos (by omega), if_pos (by omega), hx, hy, w64n _ (by omega)]
      simp
    by_cases e : x = y
    · have h1 := same_l0 a b (pa ++ [x]) (pb ++ [y]) A B (by rw [hA]; simp) (by rw [hB]; simp) (by simp [hl]) hab' hn
      have h2 : decide (x :: a = y :: b) = decide (a = b) := by simp [e]
      rw [h2]
      exact Ev.step (fun k => by rw [hs, if_pos e]) h1
    · have h2 : decide (x :: a = y :: b) = false := by simp [e]
      rw [h2]
      exact Ev.one fun k => by rw [hs, if_neg e]
  | [], _ :: _, _, _, _, _, _, _, _, hab, _ => by simp at hab
  | _ :: _, [], _, _, _, _, _, _, _, hab, _ => by simp at hab
theorem same_is (a b : List Int) (h : a.length ≤ 1000000) : Ev (fun k => portcullisref04_Same.f k a b) (decide (a = b)) := by
  by_cases e : a.length = b.length
  · refine Ev.of_eq (fun k => ?_) (same_l0 a b [] [] a b rfl rfl rfl e h)
    unfold portcullisref04_Same.f
    rw [if_pos (by omega)]
    rfl
  · have : decide (a = b) = false := decide_eq_false fun h => e (by rw [h])
    rw [this]
    refine Ev.now fun k => ?_
    unfold portcullisref04_Same.f
    rw [if_neg (by omega)]
def outU (done : List Int) (st : Option Int) (seg : List Int) : List Int := done ++ (st.toList ++ seg)
def stU (done : List Int) : Option Int → Int
  | none => -1
  | some _ => (done.length : Int)
theorem nfc_l0 : ∀ (rest done : List Int) (st : Option Int) (seg : List Int) (last : Int) (pre d : List Int), d = pre ++ rest → d.length ≤ 1000000 → (outU done st seg).length ≤ pre.length →
    Ev (fun k => norm_NFC.l0 k (outU done st seg) (stU done st) last d (d.length : Int) (pre.length : Int)) (cpsU rest done st seg last)
  | [], done, st, seg, last, pre, d, hd, hn, ho => by
    have e : cpsU [] done st seg last = outU done st seg := by cases st <;> simp [cpsU, outU]
    rw [e]
    exact Ev.one fun k => by rw [norm_NFC.l0, if_neg (by rw [hd]; simp)]
  | r :: t, done, st, seg, last, pre, d, hd, hn, ho => by
    have hr : rd d (pre.length : Int) = r := by rw [hd]; exact rd_app pre t r
    have hl : d.length = pre.length + (t.length + 1) := by rw [hd]; simp
    have hw : wrap64 ((pre.length : Int) + 1) = (((pre ++ [r]).length : Nat) : Int) := by rw [w64n _ (by omega)]; simp
    have IH := fun done' st' seg' last' h => nfc_l0 t done' st' seg' last' (pre ++ [r]) d (by rw [hd]; simp) hn h
    -- what is pushed
    have push : ∀ b : Bool, (b = true → ∃ s, st = some s ∧ (prU s r).2 = false) → Ev (fun k => norm_NFC.j1 k (outU done st seg) (stU done st) last r (clsU r) d (d.length : Int) (pre.length : Int) b)
        (if clsU r = 0 then cpsU t (outU done st seg) (some r) [] 0 else cpsU t done st (seg ++ [r]) (clsU r)) := fun b hb => by
      have ho2 : (outU done st seg ++ [r]) = outU done st (seg ++ [r]) := by simp [outU]
      have hs : ∀ k, norm_NFC.j1 (k + 1) (outU done st seg) (stU done st) last r (clsU r) d (d.length : Int) (pre.length : Int) b =
          if clsU r = 0 then norm_NFC.l0 k (outU (outU done st seg) (some r) []) (stU (outU done st seg) (some r)) 0 d (d.length : Int) (((pre ++ [r]).length : Nat) : Int)
          else norm_NFC.l0 k (outU done st (seg ++ [r])) (stU done st) (clsU r) d (d.length : Int) (((pre ++ [r]).length : Nat) : Int) := fun k => by
        have ho3 : outU (outU done st seg) (some r) [] = outU done st seg ++ [r] := by simp [outU]
        rw [norm_NFC.j1, hw, ho3, ← ho2]
        have tail : (if clsU r = 0 then (if (outU done st seg).length < 35184372088832 then norm_NFC.l0 k (outU done st seg ++ [r]) ((outU done st seg).length : Int) (clsU r) d (d.length : Int) (((pre ++ [r]).length : Nat) : Int) else none) else (if (outU done st seg).length < 35184372088832 then norm_NFC.l0 k (outU done st seg ++ [r]) (stU done st) (clsU r) d (d.length : Int) (((pre ++ [r]).length : Nat) : Int) else none))
            = if clsU r = 0 then norm_NFC.l0 k (outU done st seg ++ [r]) (stU (outU done st seg) (some r)) 0 d (d.length : Int) (((pre ++ [r]).length : Nat) : Int) else norm_NFC.l0 k (outU done st seg ++ [r]) (stU done st) (clsU r) d (d.length : Int) (((pre ++ [r]).length : Nat) : Int) := by
          by_cases hz : clsU r = 0
          · rw [if_pos hz, if_pos (by omega), if_pos hz, hz]; rfl
          · rw [if_neg hz, if_pos (by omega), if_neg hz]
        cases b with
        | false => rw [if_neg (by decide)]; exact tail
        | true =>
          obtain ⟨s, rfl, hp⟩ := hb rfl
          have hrd : rd (outU done (some s) seg) (stU done (some s)) = s := by
            show rd (done ++ s :: seg) (done.length : Int) = s
            exact rd_app done seg s
          have hst : stU done (some s) = (done.length : Int) := rfl
          rw [if_pos rfl, if_pos (by rw [hst]; omega), if_pos (by rw [hst]; simp [outU]; omega), hrd, prU_f, Option.bind_some, if_neg (by rw [hp]; decide)]
          exact tail
      by_cases hz : clsU r = 0
      · rw [if_pos hz]
        exact Ev.step (fun k => by rw [hs, if_pos hz]) (IH _ _ _ _ (by simp [outU] at ho ⊢; omega))
      · rw [if_neg hz]
        exact Ev.step (fun k => by rw [hs, if_neg hz]) (IH _ _ _ _ (by simp [outU] at ho ⊢; omega))
    cases st with
    | none =>
      have hs : ∀ k, norm_NFC.l0 (k + 1) (outU done none seg) (stU done none) last d (d.length : Int) (pre.length : Int) = norm_NFC.j1 k (outU done none seg) (stU done none) last r (clsU r) d (d.length : Int) (pre.length : Int) false := fun k => by
        rw [norm_NFC.l0, if_pos (by omega), if_pos (by omega), if_pos (by omega), hr, clsU_f, Option.bind_some, if_neg (by show ¬ ((-1 : Int) ≥ 0); decide)]
      have e : cpsU (r :: t) done none seg last = if clsU r = 0 then cpsU t (outU done none seg) (some r) [] 0 else cpsU t done none (seg ++ [r]) (clsU r) := by rw [cpsU]; rfl
      rw [e]
      exact Ev.step hs (push false (fun h => by cases h))
    | some s =>
      have hlo : (outU done (some s) seg).length = done.length + (seg.length + 1) := by simp [outU]
      have hs : ∀ k, norm_NFC.l0 (k + 1) (outU done (some s) seg) (stU done (some s)) last d (d.length : Int) (pre.length : Int) = norm_NFC.j1 k (outU done (some s) seg) (stU done (some s)) last r (clsU r) d (d.length : Int) (pre.length : Int) (decide (seg = [] ∨ (last ≠ 0 ∧ last < clsU r))) := fun k => by
        rw [norm_NFC.l0, if_pos (by omega), if_pos (by omega), if_pos (by omega), hr, clsU_f, Option.bind_some, if_pos (by show ((done.length : Int) ≥ 0); omega)]
        have hwl : wrap64 (((outU done (some s) seg).length : Int) - 1) = ((done.length + seg.length : Nat) : Int) := by rw [w64p _ (by omega) (by omega)]; omega
        rw [hwl]
        by_cases hseg : seg = []
        · rw [if_pos (by subst hseg; show ((done.length + 0 : Nat) : Int) = (done.length : Int); omega)]
          have : decide (seg = [] ∨ (last ≠ 0 ∧ last < clsU r)) = true := decide_eq_true (.inl hseg)
          rw [this]
        · have hpos := List.length_pos_iff.2 hseg
          rw [if_neg (by show ¬ ((done.length + seg.length : Nat) : Int) = (done.length : Int); omega)]
          by_cases h0 : last = 0
          · rw [if_pos h0]
            have : decide (seg = [] ∨ (last ≠ 0 ∧ last < clsU r)) = false := decide_eq_false (by rintro (h | h); exact hseg h; exact h.1 h0)
            rw [this]
          · rw [if_neg h0]
            have : decide (seg = [] ∨ (last ≠ 0 ∧ last < clsU r)) = decide (last < clsU r) := decide_eq_decide.2 ⟨fun h => (h.resolve_left hseg).2, fun h => .inr ⟨h0, h⟩⟩
            rw [this]
      by_cases hc : (seg = [] ∨ (last ≠ 0 ∧ last < clsU r)) ∧ (prU s r).2 = true
      · have e : cpsU (r :: t) done (some s) seg last = cpsU t done (some (prU s r).1) seg last := by rw [cpsU, if_pos hc]
        rw [e]
        refine Ev.step hs ?_
        rw [decide_eq_true hc.1]
        refine Ev.step (fun k => ?_) (IH done (some (prU s r).1) seg last (by simp [outU] at ho ⊢; omega))
        have hrd : rd (outU done (some s) seg) (stU done (some s)) = s := by
          show rd (done ++ s :: seg) (done.length : Int) = s
          exact rd_app done seg s
        have hst : stU done (some s) = (done.length : Int) := rfl
        rw [norm_NFC.j1, hw, if_pos rfl, if_pos (by rw [hst]; omega), if_pos (by rw [hst]; omega), hrd, prU_f, Option.bind_some, if_pos hc.2]
        have hset : (outU done (some s) seg).set (stU done (some s)).toNat (prU s r).1 = outU done (some (prU s r).1) seg := by
          rw [hst, Int.toNat_natCast]
          show (done ++ s :: seg).set done.length _ = done ++ (prU s r).1 :: seg
          rw [List.set_append_right _ _ (Nat.le_refl _), Nat.sub_self, List.set_cons_zero]
        rw [hset]
        rfl
      · have e : cpsU (r :: t) done (some s) seg last = if clsU r = 0 then cpsU t (outU done (some s) seg) (some r) [] 0 else cpsU t done (some s) (seg ++ [r]) (clsU r) := by rw [cpsU, if_neg hc]; rfl
        rw [e]
        refine Ev.step hs (push _ (fun hb => ⟨s, rfl, ?_⟩))
        have hb' := of_decide_eq_true hb
        exact Bool.eq_false_iff.2 fun h => hc ⟨hb', h⟩
theorem nfd_is (l : List Int) (hl : l.length ≤ 60000) : norm_NFD.f l = some (nfdU l) := by unfold norm_NFD.f; rw [if_pos hl]; rfl
theorem nfc_is (l : List Int) (hl : l.length ≤ 60000) : Ev (fun k => norm_NFC.f k l) (nfcU l) := by
  have h := nfc_l0 (nfdU l) [] none [] 0 [] (nfdU l) rfl (by have := nfd_len l; omega) (by simp [outU])
  refine Ev.of_eq (fun k => ?_) h
  unfold norm_NFC.f
  rw [nfd_is l hl, Option.bind_some]
  rfl
theorem copied_is (l : List Int) (hl : l.length ≤ 1000000) : portcullislaw04_copied.f l = some l := by unfold portcullislaw04_copied.f; rw [if_pos hl]
set_option maxRecDepth 100000 in
theorem works_is : Ev (fun k => portcullislaw04_works.f k) true := Ev.of_mono (fun k => portcullislaw04_works.mono k) 60 (by kernel_rfl)
end Go.Proofs.YtanpephfnjnfoaaDoor.Pr
end

section
namespace Go.Proofs.YtanpephfnjnfoaaDoor.Pr
open Go.RowKit Go.Proofs.YtanpephfnjnfoaaDoorW.PrintWords Go.Proofs.YtanpephfnjnfoaaDoorW.PrintLast Go.Proofs.YtanpephfnjnfoaaDoorW.PrintMore
set_option linter.unusedVariables false
set_option linter.unusedSimpArgs false

def uAll : List S55 := uT0 ++ uT1 ++ uT2
def rAll : List S30 := rT0 ++ rT1 ++ rT2
def toU (x : S30) : S55 := ⟨x.f0, x.f1, x.f2, x.f6, x.f7, x.f8, x.f10, x.f9⟩
theorem toU_all : rAll.map toU = uAll := by kernel_rfl
def inR (r : Int) (x : S30) : Bool := decide (x.f0 ≤ r) && decide (r ≤ x.f1)
def findR (r : Int) : S30 := (rAll.find? (inR r)).getD z30
theorem findR_U (r : Int) : toU (findR r) = findU r := by
  unfold findR
  have h : findU r = ((rAll.map toU).find? (inU r)).getD z55 := by rw [toU_all]; rfl
  rw [h, List.find?_map, show inU r ∘ toU = inR r from rfl]
  cases rAll.find? (inR r) with
  | none => rfl
  | some x => rfl
theorem wrap_next (i : Nat) (h : i ≤ 1000000) : wrap64 ((i : Int) + 1) = ((i + 1 : Nat) : Int) := by unfold wrap64; omega

def tupR (x : S30) : Int × Int × Int × Int × Int × Int × Int × Int × Int × Bool × Int := (x.f0, x.f1, x.f2, x.f3, x.f4, x.f5, x.f6, x.f7, x.f8, x.f9, x.f10)
theorem find_l0 (k : Nat) (r : Int) (l : List S30) (hl : l.length ≤ 1000) : ∀ d i : Nat, i + d = l.length → portcullisref03_Find.l0 (k + d + 1) r l (i : Int) = some (tupR (((l.drop i).find? (inR r)).getD z30))
  | 0, i, h => by
    unfold portcullisref03_Find.l0
    rw [if_neg (by omega), List.drop_of_length_le (by omega)]
    rfl
  | d + 1, i, h => by
    have hi : i < l.length := by omega
    have ih := find_l0 k r l hl d (i + 1) (by omega)
    have hx : rd_T30 l (i : Int) = l[i] := by unfold rd_T30; simp [hi]
    rw [show k + (d + 1) + 1 = (k + d + 1) + 1 from rfl]
    unfold portcullisref03_Find.l0
    rw [if_pos (by omega), if_pos (by omega), hx, wrap_next i (by omega), ih, List.drop_eq_getElem_cons hi, List.find?_cons]
    by_cases h1 : l[i].f0 ≤ r
    · rw [if_pos h1]
      by_cases h2 : r ≤ l[i].f1
      · rw [if_pos h2, show inR r l[i] = true by unfold inR; simp [h1, h2]]; rfl
      · rw [if_neg h2, show inR r l[i] = false by unfold inR; simp [h2]]
    · rw [if_neg h1, show inR r l[i] = false by unfold inR; simp [h1]]
theorem rows_eq : portcullisref03_Rows.f = some rAll := by kernel_rfl
theorem refFind_eq (k : Nat) (r : Int) : portcullisref03_Find.f (k + 100) r = some (tupR (findR r)) := by
  unfold portcullisref03_Find.f
  rw [rows_eq, Option.bind_some]
  exact find_l0 (k + 11) r rAll (by decide) 88 0 (by decide)
def lits (r : Int) : List Int := if r = 8486 then [937] else if r = 8490 then [75] else if r = 8491 then [197] else []
end Go.Proofs.YtanpephfnjnfoaaDoor.Pr
end

section
namespace Go.Proofs.YtanpephfnjnfoaaDoor.Pure
open Go.RowKit Go.Proofs.YtanpephfnjnfoaaDoor.Pr Go.Proofs.YtanpephfnjnfoaaDoorW.PrintWords Go.Proofs.YtanpephfnjnfoaaDoorW.PrintLast Go.Proofs.YtanpephfnjnfoaaDoorW.PrintMore
set_option linter.unusedVariables false
set_option linter.unusedSimpArgs false

theorem class_R (r : Int) : (findR r).f8 = clsU r := by
  have := findR_U r
  unfold clsU
  rw [← this]
  rfl
theorem joins_works (a b : List Int) : Pr.Ev (fun k => portcullislaw04_NormJoins.j0 k a b true) true := by
  refine Pr.Ev.step (fun k => ?_) works_is
  rw [portcullislaw04_NormJoins.j0, if_pos rfl]
  cases portcullislaw04_works.f k <;> rfl
theorem joins_main (a b : List Int) (ha : a.length ≤ 300) (hb : b.length ≤ 300) (h : ∀ x, b.head? = some x → clsU x = 0) : Pr.Ev (fun k => portcullislaw04_NormJoins.j0 k a b false) true := by
  obtain ⟨K0, h0⟩ := works_is
  have l1 := nfd_len a
  have l2 := nfc_len a
  have l3 := nfd_len b
  have l4 := nfc_len b
  have l5 := nfd_len (a ++ b)
  have l6 := nfc_len (a ++ b)
  have lab : (a ++ b).length = a.length + b.length := List.length_append
  obtain ⟨K1, h1⟩ := nfc_is a (by omega)
  obtain ⟨K2, h2⟩ := nfc_is b (by omega)
  obtain ⟨K3, h3⟩ := nfc_is (a ++ b) (by omega)
  have n1 := nfd_is a (by omega)
  have n2 := nfd_is b (by omega)
  have n3 := nfd_is (a ++ b) (by omega)
  obtain ⟨K4, h4⟩ := same_is (nfcU (a ++ b)) (nfcU (a ++ b)) (by omega)
  obtain ⟨K5, h5⟩ := same_is (nfdU (a ++ b)) (nfdU (a ++ b)) (by omega)
  have p1 := copied_is a (by omega)
  have p2 := copied_is b (by omega)
  have p3 := copied_is (nfcU a) (by omega)
  have p4 := copied_is (nfdU a) (by omega)
  have q1 := nfc_join a b h
  have q2 := nfd_join a b h
  refine ⟨K0 + K1 + K2 + K3 + K4 + K5 + 1, fun k hk => ?_⟩
  obtain ⟨k, rfl⟩ : ∃ k', k = k' + 1 := ⟨k - 1, by omega⟩
  have e0 := h0 k (by omega)
  have e1 := h1 k (by omega)
  have e2 := h2 k (by omega)
  have e3 := h3 k (by omega)
  have e4 := h4 k (by omega)
  have e5 := h5 k (by omega)
  simp only at e0 e1 e2 e3 e4 e5
  simp only [decide_true] at e4 e5
  rw [q1] at e3 e4
  rw [q2] at n3 e5
  have b1 : (nfcU a).length + (nfcU b).length < 35184372088832 := by omega
  have b2 : a.length + b.length < 35184372088832 := by omega
  have b3 : (nfdU a).length + (nfdU b).length < 35184372088832 := by omega
  show portcullislaw04_NormJoins.j0 (k + 1) a b false = some true
  rw [portcullislaw04_NormJoins.j0, if_neg (by decide)]
  simp only [p1, p2, p3, p4, e0, e1, e2, e3, e4, e5, n1, n2, n3, Option.bind_some, if_true, if_pos b1, if_pos b2, if_pos b3]
theorem NormJoins : portcullislaw04_NormJoins.Pure := by
  intro a b hm hl hw hm2 hl2 hw2
  have key : Pr.Ev (fun k => portcullislaw04_NormJoins.f k a b) true := by
    by_cases c1 : (a.length : Int) > 300
    · refine Pr.Ev.of_eq (fun k => ?_) (joins_works a b)
      unfold portcullislaw04_NormJoins.f
      rw [if_pos c1]
    · by_cases c2 : (b.length : Int) > 300
      · refine Pr.Ev.of_eq (fun k => ?_) (joins_works a b)
        unfold portcullislaw04_NormJoins.f
        rw [if_neg c1, if_pos c2]
      · cases b with
        | nil =>
          refine Pr.Ev.of_eq (fun k => ?_) (joins_main a [] (by omega) (by simp) (fun x hx => by simp at hx))
          unfold portcullislaw04_NormJoins.f
          rw [if_neg c1, if_neg c2, if_neg (by simp)]
        | cons x t =>
          have hf : ∀ k, portcullislaw04_NormJoins.f (k + 100) a (x :: t) = portcullislaw04_NormJoins.j0 (k + 100) a (x :: t) (clsU x != 0) := fun k => by
            unfold portcullislaw04_NormJoins.f
            have hrd : rd (x :: t) 0 = x := rfl
            rw [if_neg c1, if_neg c2, if_pos (by simp), if_pos (by simp), hrd, refFind_eq, Option.bind_some]
            show portcullislaw04_NormJoins.j0 (k + 100) a (x :: t) ((findR x).f8 != 0) = _
            rw [class_R]
          by_cases hz : clsU x = 0
          · obtain ⟨K, hK⟩ := joins_main a (x :: t) (by omega) (by omega) (fun y hy => by
              have hxy : x = y := Option.some.inj hy
              rw [← hxy]
              exact hz)
            refine ⟨K + 100, fun k hk => ?_⟩
            obtain ⟨k, rfl⟩ : ∃ k', k = k' + 100 := ⟨k - 100, by omega⟩
            show portcullislaw04_NormJoins.f (k + 100) a (x :: t) = _
            rw [hf, hz]
            exact hK (k + 100) (by omega)
          · obtain ⟨K, hK⟩ := joins_works a (x :: t)
            refine ⟨K + 100, fun k hk => ?_⟩
            obtain ⟨k, rfl⟩ : ∃ k', k = k' + 100 := ⟨k - 100, by omega⟩
            show portcullislaw04_NormJoins.f (k + 100) a (x :: t) = _
            rw [hf, show (clsU x != 0) = true from bne_iff_ne.2 hz]
            exact hK (k + 100) (by omega)
  exact key.ex
end Go.Proofs.YtanpephfnjnfoaaDoor.Pure
end
