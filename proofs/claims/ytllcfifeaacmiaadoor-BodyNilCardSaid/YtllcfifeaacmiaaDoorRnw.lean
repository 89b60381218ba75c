import Derived.Test.YtllcfifeaacmiaaDoorRfd
namespace Go.Proofs.YtllcfifeaacmiaaDoor.Pr
open Go.RowKit Go.Proofs.YtllcfifeaacmiaaDoorW.PrintWords Go.Proofs.YtllcfifeaacmiaaDoorW.PrintLast Go.Proofs.YtllcfifeaacmiaaDoorW.PrintMore
set_option linter.unusedVariables false
set_option linter.unusedSimpArgs false

/-! ### Feed's other ways; Total; New -/
theorem feed_nil (W : World) (s : ByteArray) :
    Calls Tryd.prog 13 #[.pointer none, .string s] W fun e W' => e = .returned (.tuple #[.int .i64 0, .string ⟨#[]⟩, .bool false, .int .i64 1]) ∧ W' = W := by
  go_enter Tryd.func13, Tryd.ntmps13
  go_wp2_with fail
  (try simp only [Exit.inBlock, Exit.then])
  refine bodyPost_ret (results_tmp4 rfl _ _) rfl ?_
  exact ⟨rfl, rfl⟩
theorem feed_fault (F : Nat → Prop) (B g : Nat) (W : World) (R : Rm) (vs vt vd : Value) (cl : List Nat) (s : ByteArray) (h : RdC F B g W R vs vt vd cl) (hm : R.made = true) (hf : R.fault ≠ 0) :
    Calls Tryd.prog 13 #[.pointer (some ⟨g, 0, none⟩), .string s] W fun e W' => e = .returned (.tuple #[.int .i64 0, .string ⟨#[]⟩, .bool false, .int .i64 R.fault]) ∧ W' = W.drew := by
  have hc11 : W.cell? ⟨g, 11, none⟩ = some (.bool true) := (h.cell 11).trans (by unfold cellsR; rw [hm]; rfl)
  have hc9 : W.cell? ⟨g, 9, none⟩ = some (.int .i64 R.fault) := h.cell 9
  have ez : (R.fault != 0) = true := bne_iff_ne.2 hf
  clear h hm hf
  go_enter Tryd.func13, Tryd.ntmps13
  go_wp2_with go_region
  (try simp only [Exit.inBlock, Exit.then])
  refine bodyPost_ret (results_tmp4 rfl _ _) rfl ?_
  exact ⟨rfl, rfl⟩
theorem feed_over (F : Nat → Prop) (B g : Nat) (W : World) (R : Rm) (vs vt vd : Value) (cl : List Nat) (s : ByteArray) (h : RdC F B g W R vs vt vd cl) (hm : R.made = true) (hf : R.fault = 0) (ho : R.over = true) :
    Calls Tryd.prog 13 #[.pointer (some ⟨g, 0, none⟩), .string s] W fun e W' => e = .returned (.tuple #[.int .i64 0, .string ⟨#[]⟩, .bool false, .int .i64 3]) ∧ W' = W := by
  have hc11 : W.cell? ⟨g, 11, none⟩ = some (.bool true) := (h.cell 11).trans (by unfold cellsR; rw [hm]; rfl)
  have hc9 : W.cell? ⟨g, 9, none⟩ = some (.int .i64 0) := (h.cell 9).trans (by unfold cellsR; rw [hf]; rfl)
  have hc10 : W.cell? ⟨g, 10, none⟩ = some (.bool true) := (h.cell 10).trans (by unfold cellsR; rw [ho]; rfl)
  clear h hm hf ho
  go_enter Tryd.func13, Tryd.ntmps13
  go_wp2_with fail
  (try simp only [Exit.inBlock, Exit.then])
  refine bodyPost_ret (results_tmp4 rfl _ _) rfl ?_
  exact ⟨rfl, rfl⟩
theorem total_nil (W : World) : Calls Tryd.prog 16 #[.pointer none] W fun e W' => e = .returned (.int .i64 0) ∧ W' = W := by
  go_enter Tryd.func16, Tryd.ntmps16
  go_wp2_with fail
  go_ret
  exact ⟨rfl, rfl⟩
theorem total_any (F : Nat → Prop) (B g : Nat) (W : World) (R : Rm) (vs vt vd : Value) (cl : List Nat) (h : RdC F B g W R vs vt vd cl) : Calls Tryd.prog 16 #[.pointer (some ⟨g, 0, none⟩)] W fun e W' => e = .returned (.int .i64 R.total) ∧ W' = W := by
  have hc8 : W.cell? ⟨g, 8, none⟩ = some (.int .i64 R.total) := h.cell 8
  clear h
  go_enter Tryd.func16, Tryd.ntmps16
  go_wp2_with fail
  go_ret
  exact ⟨rfl, rfl⟩
def newE (kind size : Int) : Int := if 2 < kind ∨ size < 0 ∨ (kind ≠ 1 ∧ size ≠ 0) then 2 else if 16777216 < size then 4 else 0
def newR (kind size : Int) : Rm := { st := if kind = 2 then .digit else if 0 < size then .plain else .none, left := size, sum := 0, digits := 0, line := 0, fields := 0, text := [], data := [], total := 0, fault := 0, over := false, made := true }
theorem new_bad (kind size : Int) (W : World) (h : newE kind size ≠ 0) : Calls Tryd.prog 12 #[.int .u8 kind, .int .i64 size] W fun e W' => e = .returned (.tuple #[.pointer none, .int .i64 (newE kind size)]) ∧ W' = W := by
  unfold newE at h ⊢
  by_cases h1 : 2 < kind
  · have e1 : decide (2 < kind) = true := decide_eq_true h1
    rw [if_pos (.inl h1)]
    clear h h1
    go_enter Tryd.func12, Tryd.ntmps12
    go_wp2_with fail
    go_ret2
    exact ⟨rfl, rfl⟩
  · have e1 : decide (2 < kind) = false := decide_eq_false h1
    by_cases h2 : size < 0
    · have e2 : decide (size < 0) = true := decide_eq_true h2
      rw [if_pos (.inr (.inl h2))]
      clear h h1 h2
      go_enter Tryd.func12, Tryd.ntmps12
      go_wp2_with fail
      go_ret2
      exact ⟨rfl, rfl⟩
    · have e2 : decide (size < 0) = false := decide_eq_false h2
      by_cases h3 : kind = 1
      · have e3 : (kind != 1) = false := by rw [h3]; rfl
        have hn : ¬ (2 < kind ∨ size < 0 ∨ (kind ≠ 1 ∧ size ≠ 0)) := by omega
        rw [if_neg hn] at h ⊢
        by_cases h5 : 16777216 < size
        · have e5 : decide (16777216 < size) = true := decide_eq_true h5
          rw [if_pos h5]
          clear h h1 h2 h3 h5 hn
          go_enter Tryd.func12, Tryd.ntmps12
          go_wp2_with fail
          go_ret2
          exact ⟨rfl, rfl⟩
        · rw [if_neg h5] at h; exact absurd rfl h
      · have e3 : (kind != 1) = true := bne_iff_ne.2 h3
        by_cases h4 : size = 0
        · rw [if_neg (by omega), if_neg (by omega)] at h; exact absurd rfl h
        · have e4 : (size != 0) = true := bne_iff_ne.2 h4
          rw [if_pos (.inr (.inr ⟨h3, h4⟩))]
          clear h h1 h2 h3 h4
          go_enter Tryd.func12, Tryd.ntmps12
          go_wp2_with fail
          go_ret2
          exact ⟨rfl, rfl⟩
theorem new_rd (W : World) (R : Rm) (vs : Value) (cs : Array Value) (hc : cs = cellsR R vs (.slice none 0 0) (.slice none 0 0)) (ht : R.text = []) (hd : R.data = []) : RdC (fun k => W.heap.size ≤ k) W.heap.size W.heap.size (W.alloc (.cells cs 47)) R vs (.slice none 0 0) (.slice none 0 0) [] := by
  subst hc
  refine ⟨Go.Deep.blk_alloc_new W _, Nat.le_refl _, Nat.le_refl _, fun k hk => (List.not_mem_nil hk).elim, ?_, ?_⟩
  · rw [ht]; exact Kd.R_nil _ _ _ _ _
  · rw [hd]; exact Kd.R_nil _ _ _ _ _
theorem new_any (kind size : Int) (W : World) (h : newE kind size = 0) : Calls Tryd.prog 12 #[.int .u8 kind, .int .i64 size] W fun e W' => e = .returned (.tuple #[.pointer (some ⟨W.heap.size, 0, none⟩), .int .i64 0]) ∧ Below W.heap.size W W' ∧ ∃ vs, RdC (fun k => W.heap.size ≤ k) W.heap.size W.heap.size W' (newR kind size) vs (.slice none 0 0) (.slice none 0 0) [] ∧ StV W' vs [] (newR kind size).st := by
  unfold newE at h
  have h1 : ¬ (2 < kind ∨ size < 0 ∨ (kind ≠ 1 ∧ size ≠ 0)) := fun e => by rw [if_pos e] at h; cases h
  rw [if_neg h1] at h
  have h2 : ¬ 16777216 < size := fun e => by rw [if_pos e] at h; cases h
  have e1 : decide (2 < kind) = false := decide_eq_false (by omega)
  have e2 : decide (size < 0) = false := decide_eq_false (by omega)
  have e5 : decide (16777216 < size) = false := decide_eq_false h2
  unfold newR
  by_cases h3 : kind = 2
  · obtain rfl := h3
    obtain rfl : size = 0 := by omega
    clear h h1 h2 e1 e2 e5
    go_enter Tryd.func12, Tryd.ntmps12
    go_wp2_with fail
    go_ret2
    refine ⟨rfl, below_alloc (Below.refl _ _) _, _, new_rd W _ _ _ rfl rfl rfl, ⟨rfl, rfl⟩⟩
  · have e3 : (kind == 2) = false := beq_eq_false_iff_ne.2 h3
    rw [if_neg h3]
    by_cases h4 : 0 < size
    · have e4 : decide (0 < size) = true := decide_eq_true h4
      have h6 : kind = 1 := by omega
      subst h6
      rw [if_pos h4]
      clear h h1 h2 h3 h4
      go_enter Tryd.func12, Tryd.ntmps12
      go_wp2_with fail
      go_ret2
      refine ⟨rfl, below_alloc (Below.refl _ _) _, _, new_rd W _ _ _ rfl rfl rfl, ⟨rfl, rfl⟩⟩
    · have h6 : size = 0 := by omega
      subst h6
      rw [if_neg h4]
      clear h h1 h2 h3 h4 e2 e5
      go_enter Tryd.func12, Tryd.ntmps12
      go_wp2_with fail
      all_goals go_ret2
      all_goals (exact ⟨rfl, below_alloc (Below.refl _ _) _, _, new_rd W _ _ _ rfl rfl rfl, ⟨rfl, rfl⟩⟩)
end Go.Proofs.YtllcfifeaacmiaaDoor.Pr
