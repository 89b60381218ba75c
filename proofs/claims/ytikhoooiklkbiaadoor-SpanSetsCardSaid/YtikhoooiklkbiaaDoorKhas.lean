import Derived.Test.YtikhoooiklkbiaaDoorKsw
namespace Go.Proofs.YtikhoooiklkbiaaDoor.Pr
open Go.RowKit Go.Proofs.YtikhoooiklkbiaaDoorW.PrintWords Go.Proofs.YtikhoooiklkbiaaDoorW.PrintLast Go.Proofs.YtikhoooiklkbiaaDoorW.PrintMore
set_option linter.unusedVariables false
set_option linter.unusedSimpArgs false

/-! ### Is a code point in a set? -/
theorem in_span (r : Int) (g : Nat) (W : World) (hW : W.cell? ⟨g, 0, none⟩ = some (.int .i32 r)) (x : Sp) :
    Calls Tryd.prog 39 #[.agg #[.int .i32 x.f0, .int .i32 x.f1], .pointer (some ⟨g, 0, none⟩)] W fun e W' => e = .returned (.bool (decide (inS x r))) ∧ Below W.heap.size W W' := by
  have hg : g < W.heap.size := World.block_lt_of_cell? _ _ hW
  by_cases h1 : x.f0 ≤ r
  · have e1 : decide (x.f0 ≤ r) = true := decide_eq_true h1
    have e2 : decide (inS x r) = decide (r ≤ x.f1) := by unfold inS; simp [h1]
    rw [e2]
    clear h1 e2
    generalize x.f0 = a at e1 ⊢
    generalize x.f1 = b
    generalize hb : decide (r ≤ b) = t
    go_enter Tryd.func39, Tryd.ntmps39
    go_wp2
    go_ret
    exact ⟨rfl, (Below.refl _ _).alloc (Nat.le_refl _) _⟩
  · have e1 : decide (x.f0 ≤ r) = false := decide_eq_false h1
    have e2 : decide (inS x r) = false := decide_eq_false (fun h => h1 h.1)
    rw [e2]
    clear h1 e2
    generalize x.f0 = a at e1 ⊢
    generalize x.f1 = b
    go_enter Tryd.func39, Tryd.ntmps39
    go_wp2
    go_ret
    exact ⟨rfl, (Below.refl _ _).alloc (Nat.le_refl _) _⟩
/-- Where the first span is over a code point; -1: none. -/
def posL (l : List Sp) (r : Int) : Int := match l.findIdx? (fun s => decide (inS s r)) with | some i => i | none => -1
theorem posL_has (l : List Sp) (r : Int) : decide (0 ≤ posL l r) = hasL l r := by
  unfold posL hasL
  cases h : l.findIdx? (fun s => decide (inS s r)) with
  | none =>
    have h' := List.findIdx?_eq_none_iff.1 h
    have e : l.any (fun s => decide (inS s r)) = false := List.any_eq_false.2 fun x hx => by rw [h' x hx]; decide
    rw [e]
    exact decide_eq_false (by decide)
  | some i =>
    obtain ⟨hl, he, _⟩ := List.findIdx?_eq_some_iff_getElem.1 h
    have e : l.any (fun s => decide (inS s r)) = true := List.any_eq_true.2 ⟨l[i], List.getElem_mem hl, he⟩
    rw [e]
    exact decide_eq_true (by simp)
set_option maxHeartbeats 1000000 in
theorem index_spans (r : Int) (g : Nat) (A0 : Option Addr) (c0 : Nat) (l : List Sp) (w : World) (hC : Kd.C k37 w A0 l.length l) (hc : l.length ≤ c0) (hn : l.length ≤ 1000000) (hW : w.cell? ⟨g, 0, none⟩ = some (.int .i32 r)) :
    Calls Tryd.prog 51 #[.slice A0 l.length c0, .func (.func 39) #[] #[.pointer (some ⟨g, 0, none⟩)]] w fun e w' => e = .returned (.int .i64 (posL l r)) ∧ Below w.heap.size w w' := by
  have HC := Aside0.mk hC
  have HW := Aside0.mk hW
  have eg : ∀ xs W, (callFunc 39 xs).run Tryd.prog W = .ok (.enter 39 xs) W := enters_of Tryd.func39 (by kernel_rfl) rfl
  clear hC hW
  go_enter Tryd.func51, Tryd.ntmps51
  go_wp2_with fail
  go_loopw [8] (fun i wr => ∃ a : Nat, i = .int .i64 a ∧ a ≤ l.length ∧ Aside0 (∀ m x, m < a → l[m]? = some x → decide (inS x r) = false) ∧ Aside0 (Below w.heap.size w wr)) (fun i _ => l.length - (intOf i).toNat)
  case atStart => exact ⟨0, rfl, Nat.zero_le _, ⟨fun m x h => absurd h (Nat.not_lt_zero _)⟩, ⟨Below.refl _ _⟩⟩
  case round =>
    obtain ⟨a, rfl, h1, H2, HB⟩ := hrel
    by_cases hlt : a < l.length
    · obtain ⟨x, hx⟩ : ∃ x, l[a]? = some x := ⟨_, List.getElem?_eq_getElem (by omega)⟩
      obtain ⟨ad, he, hx0, hx1⟩ := at_T37 (Kd.C_below HC.out HB.out) (a : Int) (by omega) (by omega)
      subst he
      have hr : rd_T37 l (a : Int) = x := by
        unfold rd_T37
        rw [Int.toNat_natCast, List.getD_eq_getElem?_getD, hx]
        rfl
      rw [hr, Int.toNat_natCast] at hx0 hx1
      have HX := Aside0.mk hx
      have HWr := Aside0.mk (cellB HW.out HB.out)
      have HF := Aside0.mk (in_span r g wr HWr.out x)
      clear hx hr
      cases hp : decide (inS x r) with
      | false =>
        rw [hp] at HF
        go_wp2_with (first | (with_reducible refine HF.out.mono ?_; rintro e w1 ⟨rfl, hb1⟩))
        go_roundw
        case rel => exact ⟨a + 1, by go_num, by omega, ⟨fun m y hm hy => by
          rcases Nat.lt_or_eq_of_le (Nat.le_of_lt_succ hm) with h | rfl
          · exact H2.out m y h hy
          · rw [HX.out] at hy; obtain rfl := Option.some.inj hy; exact hp⟩, ⟨below_step HB.out hb1⟩⟩
        case measure => simp [intOf]; omega
      | true =>
        rw [hp] at HF
        have HQ : Aside0 (posL l r = (a : Int)) := ⟨by
          have : l.findIdx? (fun s => decide (inS s r)) = some a := by
            rw [List.findIdx?_eq_some_iff_getElem]
            obtain ⟨hl, e⟩ := List.getElem?_eq_some_iff.1 HX.out
            refine ⟨hl, by rw [e]; exact hp, fun j hj => ?_⟩
            rw [H2.out j _ hj (List.getElem?_eq_getElem (by omega))]; decide
          unfold posL; rw [this]⟩
        go_wp2_with (first | (with_reducible refine HF.out.mono ?_; rintro e w1 ⟨rfl, hb1⟩))
        go_ret
        exact ⟨by rw [HQ.out]; rfl, below_step HB.out hb1⟩
    · have HQ : Aside0 (posL l r = -1) := ⟨by
        have : l.findIdx? (fun s => decide (inS s r)) = none := by
          rw [List.findIdx?_eq_none_iff]
          intro x hx
          obtain ⟨m, hm⟩ := List.mem_iff_getElem?.1 hx
          have := (List.getElem?_eq_some_iff.1 hm).1
          exact H2.out m x (by omega) hm
        unfold posL; rw [this]⟩
      go_wp2_with fail
      go_ret
      exact ⟨by rw [HQ.out]; rfl, HB.out⟩
def span_Has.f (l0 : List Sp) (r : Int) : Option Bool := if l0.length ≤ 100000 then some (decide (chk l0 = 0) && hasL l0 r) else none
theorem contains_spans (r : Int) (g : Nat) (A0 : Option Addr) (c0 : Nat) (l : List Sp) (w : World) (hC : Kd.C k37 w A0 l.length l) (hc : l.length ≤ c0) (hn : l.length ≤ 1000000) (hW : w.cell? ⟨g, 0, none⟩ = some (.int .i32 r)) :
    Calls Tryd.prog 38 #[.slice A0 l.length c0, .func (.func 39) #[] #[.pointer (some ⟨g, 0, none⟩)]] w fun e w' => e = .returned (.bool (hasL l r)) ∧ Below w.heap.size w w' := by
  have HI := index_spans r g A0 c0 l w hC hc hn hW
  have hp := posL_has l r
  rw [← hp]
  generalize posL l r = p at HI
  clear hC hc hW hp
  go_enter Tryd.func38, Tryd.ntmps38
  go_wp2_with (go_at_call 51; with_reducible refine HI.mono ?_; rintro e w1 ⟨rfl, hb⟩)
  go_ret
  exact ⟨rfl, hb⟩
theorem span_Has.calls (A0 : Option Addr) (c0 : Nat) (l0 : List Sp) (a1 : Int) (r : Bool) (w : World) (hr0 : Kd.C k37 w A0 l0.length l0) (hc0 : l0.length ≤ c0) (h : span_Has.f l0 a1 = some r) :
    Calls Tryd.prog 20 #[.slice A0 l0.length c0, .int .i32 a1] w fun e w' => e = .returned (.bool r) ∧ Below w.heap.size w w' := by
  unfold span_Has.f at h
  split at h
  · next hl =>
    obtain rfl := Option.some.inj h
    have HC := Aside0.mk (fst_is 0 l0 (w.alloc (.cells #[.int .i32 a1] 21)) A0 c0 (Kd.C_alloc hr0 _) hc0 hl)
    have HR := Aside0.mk hr0
    have HL := Aside0.mk hl
    have HN := Aside0.mk hc0
    have hz : (w.alloc (.cells #[.int .i32 a1] 21)).cell? ⟨w.heap.size, 0, none⟩ = some (.int .i32 a1) := by rw [World.cell?_alloc_new]; rfl
    have HZ := Aside0.mk hz
    clear h hr0 hc0 hl hz
    by_cases hk : chk l0 = 0
    · have e1 : (chk l0 == 0) = true := beq_iff_eq.2 hk
      have e2 : decide (chk l0 = 0) = true := decide_eq_true hk
      rw [e2, Bool.true_and]
      clear hk e2
      go_enter Tryd.func20, Tryd.ntmps20
      go_wp2_with (first | (go_at_call 17; with_reducible refine HC.out.mono ?_; rintro e w1 ⟨rfl, hb⟩) | (go_at_call 38; with_reducible refine (contains_spans a1 w.heap.size A0 c0 l0 _ (Kd.C_below (Kd.C_alloc HR.out _) hb) HN.out (by have := HL.out; omega) (cellB HZ.out hb)).mono ?_; rintro e w2 ⟨rfl, hb2⟩))
      go_ret
      exact ⟨rfl, below_step (below_step (below_alloc (Below.refl _ _) _) hb) hb2⟩
    · have e1 : (chk l0 == 0) = false := beq_eq_false_iff_ne.2 hk
      have e2 : decide (chk l0 = 0) = false := decide_eq_false hk
      rw [e2, Bool.false_and]
      clear hk e2
      go_enter Tryd.func20, Tryd.ntmps20
      go_wp2_with (first | (go_at_call 17; with_reducible refine HC.out.mono ?_; rintro e w1 ⟨rfl, hb⟩))
      go_ret
      exact ⟨rfl, below_step (below_alloc (Below.refl _ _) _) hb⟩
  · cases h
end Go.Proofs.YtikhoooiklkbiaaDoor.Pr
