import Derived.Test.YtllcfifeaacmiaaDoorGm3
namespace Go.Proofs.YtllcfifeaacmiaaDoor.Pr
open Go.RowKit Go.Proofs.YtllcfifeaacmiaaDoorW.PrintWords Go.Proofs.YtllcfifeaacmiaaDoorW.PrintLast Go.Proofs.YtllcfifeaacmiaaDoorW.PrintMore
attribute [local go_sem] max2_int min2_int max_two min_two
set_option linter.unusedVariables false
set_option linter.unusedSimpArgs false

/-! ### Run, of any kind -/
theorem run_plain (s : List UInt8) (hs : s.length ≤ 40000) (kind : Int) (size : Nat) (hz : size ≤ 16777216) (hk : kind ≠ 2) (w : World) :
    Calls Tryd.prog 15 #[.int .u8 kind, .int .i64 (size : Int), .string (mkB s)] w fun e W' => e = .returned (.agg (TkV ((min size s.length : Nat) : Int) (mkB (s.take (min size s.length))) (decide (min size s.length = size)) 0)) ∧ Below w.heap.size w W' := by
  have HSZ := Aside0.mk (mkB_size s)
  have HEX := Aside0.mk (mkB_extract s 0)
  obtain ⟨b, hb⟩ : ∃ b, mkB s = b := ⟨_, rfl⟩
  rw [hb] at HSZ HEX ⊢
  have hbs : b.size ≤ 40000 := by rw [HSZ.out]; exact hs
  have hbi : (b.size : Int) ≤ 40000 := by omega
  have e1 : (kind != 2) = true := bne_iff_ne.2 hk
  rw [← HSZ.out]
  clear hb hk hs
  by_cases h : b.size < size
  · have e2 : decide ((b.size : Int) < (size : Int)) = true := decide_eq_true (by omega)
    have e2n : decide (b.size < size) = true := decide_eq_true h
    have e3 : ((b.size : Int) == (size : Int)) = false := beq_eq_false_iff_ne.2 (by omega)
    have hm : min size b.size = b.size := by omega
    have HX : Aside0 (mkB (s.take b.size) = b) := ⟨by have := HEX.out b.size; rw [List.drop_zero] at this; rw [← this]; simp⟩
    rw [hm, decide_eq_false (show ¬ b.size = size by omega), HX.out]
    clear HX HEX hm
    go_enter Tryd.func15, Tryd.ntmps15
    go_wp2_with fail
    refine bodyPost_ret (results_cell_row rfl _ _ w.heap.size 38 (TkV (b.size : Int) b false 0) (0, 0) _ rfl (Go.Deep.blk_alloc_new w _) Tryd.underlying38 rfl (by kernel_rfl)) rfl ?_
    exact ⟨rfl, below_alloc (Below.refl _ _) _⟩
  · have e2 : decide ((b.size : Int) < (size : Int)) = false := decide_eq_false (by omega)
    have e2n : decide (b.size < size) = false := decide_eq_false h
    have hsi : (size : Int) ≤ (b.size : Int) := by omega
    have hsn : size ≤ b.size := by omega
    have hm : min size b.size = size := by omega
    have HX : Aside0 (b.extract 0 size = mkB (s.take size)) := ⟨by have := HEX.out size; rw [List.drop_zero] at this; exact this⟩
    rw [hm, decide_eq_true rfl, ← HX.out]
    clear HX HEX hm
    go_enter Tryd.func15, Tryd.ntmps15
    go_wp2_with fail
    refine bodyPost_ret (results_cell_row rfl _ _ w.heap.size 38 (TkV (size : Int) (b.extract 0 size) true 0) (0, 0) _ rfl (Go.Deep.blk_alloc_new w _) Tryd.underlying38 rfl (by kernel_rfl)) rfl ?_
    exact ⟨rfl, below_alloc (Below.refl _ _) _⟩
/-- The reader that was fed s from its beginning, and what the reference says. -/
structure Twin (R0 : Rm) (s : List UInt8) (r : Nat × List UInt8 × Bool × Int) (R' : Rm) : Prop where
  feed : feedL R0 s = (R', r.1)
  le : r.1 ≤ s.length
  data : R'.data = r.2.1
  total : R'.total = (r.2.1.length : Int)
  len : r.2.1.length ≤ r.1
  fault : R'.fault = r.2.2.2
  done : (isNone R'.st && decide (R'.fault = 0)) = r.2.2.1
  more : r.2.2.1 = false → r.2.2.2 = 0 → isNone R'.st = false ∧ r.1 = s.length
  made : R'.made = true
theorem twin (kind size : Int) (he : newE kind size = 0) (hk : 0 ≤ kind) (s : List UInt8) (hs : s.length ≤ 40000) : ∃ r R', Twin (newR kind size) s r R' ∧ ∀ w : World, Calls Tryd.prog 15 #[.int .u8 kind, .int .i64 size, .string (mkB s)] w fun e W' => e = .returned (.agg (TkV r.1 (mkB r.2.1) r.2.2.1 r.2.2.2)) ∧ Below w.heap.size w W' := by
  unfold newE at he
  have h1 : ¬ (2 < kind ∨ size < 0 ∨ (kind ≠ 1 ∧ size ≠ 0)) := fun e => by rw [if_pos e] at he; cases he
  rw [if_neg h1] at he
  have h2 : ¬ 16777216 < size := fun e => by rw [if_pos e] at he; cases he
  clear he
  by_cases h3 : kind = 2
  · subst h3
    obtain rfl : size = 0 := by omega
    have hFr : Fr (newR 2 0) 0 0 := ⟨rfl, rfl, rfl, rfl, rfl, rfl, rfl, rfl, rfl⟩
    obtain ⟨r, h4, R', x, h5⟩ := run_feed s hs (s.length + 1) 0 0 [] (newR 2 0) 0 (by omega) (Nat.zero_le _) (by omega) hFr (Nat.le_refl _)
    have hd := h5.data
    rw [List.nil_append] at hd
    refine ⟨r, R', ⟨h5.feed, h5.le, ?_, ?_, ?_, h5.fault, h5.done, h5.more, h5.made⟩, fun w => run_any ZZ s hs (s.length + 1) 0 r h4 w⟩
    · rw [hd]; exact h5.dataR
    · rw [hd, h5.total, Nat.zero_add]
    · rw [hd]; exact h5.len
  · obtain ⟨n, rfl⟩ := Int.eq_ofNat_of_zero_le (show 0 ≤ size by omega)
    have hrun := fun w => run_plain s hs kind n (by omega) h3 w
    refine ⟨(min n s.length, s.take (min n s.length), decide (min n s.length = n), 0), ?_⟩
    have hlt : (s.take (min n s.length)).length = min n s.length := by rw [List.length_take]; omega
    by_cases h0 : n = 0
    · subst h0
      have hst : (newR kind ((0 : Nat) : Int)).st = .none := by unfold newR; simp only [if_neg h3]; rfl
      refine ⟨newR kind ((0 : Nat) : Int), ⟨?_, by simp, by simp; rfl, by simp; rfl, by simp, rfl, ?_, fun a _ => by simp at a, rfl⟩, hrun⟩
      · rw [feedL_halt (.inl (by rw [hst]; rfl))]; simp
      · rw [hst]; simp [isNone]; rfl
    · have hck : newR kind (n : Int) = ck (newR kind (n : Int)) [] n 0 (sOf true) := by
        unfold newR ck sOf
        simp only [if_neg h3, if_pos (show (0 : Int) < (n : Int) by omega), if_true]
        rfl
      have hcf := chunk_feed (newR kind (n : Int)) true rfl s [] n 0 (by omega) (by omega) (by omega)
      rw [← hck] at hcf
      by_cases hl : s.length < n
      · rw [if_pos hl] at hcf
        have hm : min n s.length = s.length := by omega
        rw [hm] at hlt hrun ⊢
        refine ⟨_, ⟨hcf, Nat.le_refl _, ?_, ?_, by rw [hlt]; exact Nat.le_refl _, rfl, ?_, fun _ _ => ⟨rfl, rfl⟩, rfl⟩, hrun⟩
        · show [] ++ s = _
          rw [List.take_length, List.nil_append]
        · rw [hlt]; show ((0 + s.length : Nat) : Int) = _; rw [Nat.zero_add]
        · show false = _
          rw [decide_eq_false (by omega)]
      · rw [if_neg hl] at hcf
        have hm : min n s.length = n := by omega
        rw [hm] at hlt hrun ⊢
        rw [feedL_halt (R := ck (newR kind (n : Int)) ([] ++ s.take n) 0 (0 + n) (eOf true)) (.inl rfl)] at hcf
        refine ⟨ck (newR kind (n : Int)) ([] ++ s.take n) 0 (0 + n) (eOf true), ⟨?_, by omega, ?_, ?_, by rw [hlt]; exact Nat.le_refl _, rfl, ?_, fun a _ => ?_, rfl⟩, hrun⟩
        · rw [hcf]; simp
        · show [] ++ s.take n = _
          rw [List.nil_append]
        · rw [hlt]; show ((0 + n : Nat) : Int) = _; rw [Nat.zero_add]
        · show true = _
          rw [decide_eq_true rfl]
        · rw [decide_eq_true rfl] at a; cases a
end Go.Proofs.YtllcfifeaacmiaaDoor.Pr
