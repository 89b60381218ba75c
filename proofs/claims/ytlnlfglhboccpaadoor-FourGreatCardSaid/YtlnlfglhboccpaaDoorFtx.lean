import Derived.Test.YtlnlfglhboccpaaDoorFsp
import Derived.Test.YtlnlfglhboccpaaDoorPrB1
namespace Go.Proofs.YtlnlfglhboccpaaDoor.Pr
open Go.RowKit Go.Proofs.YtlnlfglhboccpaaDoorW.PrintWords Go.Proofs.YtlnlfglhboccpaaDoorW.PrintLast Go.Proofs.YtlnlfglhboccpaaDoorW.PrintMore
set_option linter.unusedVariables false
set_option linter.unusedSimpArgs false

/-! ### four.Ends -/
def endsF (s : ByteArray) : Bool := ((rdL 10 s.data.toList 0).2 && !s.toList.isEmpty) || (preB s && (numF s).2 != 8)
def four_Ends.f (a0 : ByteArray) : Option Bool := (four_parts.f a0).bind fun t => if 0 < t.length ∧ (rdOf ByteArray.empty t ((t.length : Int) - 1)).size ≤ 140737488351232 then some (endsF (rdOf ByteArray.empty t ((t.length : Int) - 1))) else none
theorem ret_bool {a b : Bool} (h : a = b) : Ending.returned (.bool a) = .returned (.bool b) := by rw [h]
set_option maxHeartbeats 2000000 in
theorem four_Ends.calls (a0 : ByteArray) (r : Bool) (w : World) (h : four_Ends.f a0 = some r) :
    Calls Tryd.prog 12 #[.string a0] w fun e w' => e = .returned (.bool r) ∧ Below w.heap.size w w' := by
  unfold four_Ends.f at h
  obtain ⟨t, ht, h⟩ := Option.bind_eq_some_iff.1 h
  split at h
  · next hc =>
    obtain ⟨hp, hs⟩ := hc
    obtain rfl := Option.some.inj h
    have HT := Lib.hid ht
    generalize hl : rdOf ByteArray.empty t ((t.length : Int) - 1) = last at hs ⊢
    have HL := Lib.hid hl
    clear h ht hl
    go_enter Tryd.func12, Tryd.ntmps12
    go_wp2_with fail
    refine (four_parts.calls a0 t _ HT.out).mono ?_
    rintro e w1 ⟨v, rfl, hR, hb⟩
    obtain ⟨A, c, rfl⟩ := Kd.R_slice hR
    obtain ⟨ad, rfl, hx⟩ := Kd.at_string (Kd.R_reads' hR).2.2 ((t.length : Int) - 1) (by omega) (by omega)
    have hm := (Kd.R_reads' hR).2.2.2.1
    rw [HL.out] at hx
    have HB := Lib.hid hb
    clear hR hb
    have hp' : (1 : Int) ≤ (t.length : Int) := by omega
    have hp2 : (0 : Int) ≤ (t.length : Int) - 1 := by omega
    obtain ⟨n, hn⟩ : ∃ n, (rdL 10 last.data.toList 0).1 = n := ⟨_, rfl⟩
    obtain ⟨b, hb⟩ : ∃ b, (rdL 10 last.data.toList 0).2 = b := ⟨_, rfl⟩
    have HN := fun (w : World) p hp hc => (reader1_any 10 (by decide) (by decide) last p w hp hc hs)
    rw [hn, hb] at HN
    have HE : endsF last = ((b && !last.toList.isEmpty) || (preB last && (numF last).2 != 8)) := by unfold endsF; rw [hb]
    clear hn hb
    replace HN := Lib.hid HN
    rw [show ((t.length : Int) - 1).toNat = t.length - 1 by omega] at hx
    have HP := fun w => preB_any last w
    have HQ := fun w => number_any last w hs
    generalize preB last = p at HP HE
    generalize (numF last).1 = m1 at HQ
    generalize (numF last).2 = m2 at HQ HE
    generalize hie : last.toList.isEmpty = ie at HE
    replace HE := Lib.hid HE
    replace HP := Lib.hid HP
    replace HQ := Lib.hid HQ
    by_cases h8 : m2 = 8
    · have h8b : (m2 == 8) = true := beq_iff_eq.2 h8
      have h8c : (m2 != 8) = false := by rw [bne_eq_false_iff_eq]; exact h8
      clear h8
      cases b <;> cases ie <;> cases p
      all_goals
        go_wp2_with (first | (go_at_call 17; refine (reader_any _ _).mono ?_; rintro e w' ⟨rfl, rfl⟩) | (go_at_call 24; refine (HN.out _ _ (by simp) (by simp [World.cell?_alloc_new])).mono ?_; rintro e w2 ⟨rfl, hb2⟩) | (go_at_call 8; refine (HQ.out _).mono ?_; rintro e w3 ⟨rfl, hb3⟩) | (go_at_call 18; refine (HP.out _).mono ?_; rintro e w' ⟨rfl, rfl⟩))
        go_ret
        first
          | exact ⟨ret_bool (by rw [HE.out]; simp [*]), below_step (below_step (below_alloc HB.out _) hb2) hb3⟩
          | exact ⟨ret_bool (by rw [HE.out]; simp [*]), below_step (below_alloc HB.out _) hb2⟩
    · have h8b : (m2 == 8) = false := beq_eq_false_iff_ne.2 h8
      have h8c : (m2 != 8) = true := bne_iff_ne.2 h8
      clear h8
      cases b <;> cases ie <;> cases p
      all_goals
        go_wp2_with (first | (go_at_call 17; refine (reader_any _ _).mono ?_; rintro e w' ⟨rfl, rfl⟩) | (go_at_call 24; refine (HN.out _ _ (by simp) (by simp [World.cell?_alloc_new])).mono ?_; rintro e w2 ⟨rfl, hb2⟩) | (go_at_call 8; refine (HQ.out _).mono ?_; rintro e w3 ⟨rfl, hb3⟩) | (go_at_call 18; refine (HP.out _).mono ?_; rintro e w' ⟨rfl, rfl⟩))
        go_ret
        first
          | exact ⟨ret_bool (by rw [HE.out]; simp [*]), below_step (below_step (below_alloc HB.out _) hb2) hb3⟩
          | exact ⟨ret_bool (by rw [HE.out]; simp [*]), below_step (below_alloc HB.out _) hb2⟩
  · cases h
end Go.Proofs.YtlnlfglhboccpaaDoor.Pr
