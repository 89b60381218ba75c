import Derived.Test.YtllcfifeaacmiaaDoorRn
import Derived.Test.YtllcfifeaacmiaaDoorPrA1
namespace Go.Proofs.YtllcfifeaacmiaaDoor.Pr
open Go.RowKit Go.Proofs.YtllcfifeaacmiaaDoorW.PrintWords Go.Proofs.YtllcfifeaacmiaaDoorW.PrintLast Go.Proofs.YtllcfifeaacmiaaDoorW.PrintMore
set_option linter.unusedVariables false
set_option linter.unusedSimpArgs false

/-! ### extra, sized, digit -/
def stepX (R : Rm) (c : UInt8) : Stt × Int :=
  if cntOk R c = false then (.none, 195) else if (c.toNat : Int) = 13 then (.sized, 0) else if ((c.toNat : Int) < 32 ∧ (c.toNat : Int) ≠ 9) ∨ (c.toNat : Int) = 127 then (.none, 200) else (.extra, 0)
theorem extra_any (F : Nat → Prop) (B g : Nat) (W : World) (R : Rm) (vs vt vd : Value) (cl : List Nat) (c : UInt8) (h : RdC F B g W R vs vt vd cl) :
    Calls Tryd.prog 25 #[.pointer (some ⟨g, 0, none⟩), .int .u8 (c.toNat : Int)] W (StepP F B g W vs (stepX R c).1 (stepX R c).2 (cntR R)) := by
  have HC := Aside0.mk (counts_any F B g W R vs vt vd cl c h)
  unfold StepP stepX
  clear h
  obtain ⟨b, hb⟩ : ∃ b, cntOk R c = b := ⟨_, rfl⟩
  rw [hb] at HC ⊢
  clear hb
  cases b with
  | false =>
    rw [if_pos rfl]
    go_enter Tryd.func25, Tryd.ntmps25
    go_wp2_with (go_at_call 24; (with_reducible refine HC.out.mono ?_); rintro e w1 ⟨rfl, hr, hk⟩; replace hr := Aside0.mk hr; replace hk := Aside0.mk hk)
    go_ret2
    exact ⟨_, _, _, _, rfl, ⟨rfl, rfl⟩, (hr.out.grow (fun k hk => .inl hk)).nocl, hk.out⟩
  | true =>
    rw [if_neg (by decide)]
    by_cases h1 : (c.toNat : Int) = 13
    · have e1 : ((c.toNat : Int) == 13) = true := beq_iff_eq.2 h1
      rw [if_pos h1]
      clear h1
      go_enter Tryd.func25, Tryd.ntmps25
      go_wp2_with (go_at_call 24; (with_reducible refine HC.out.mono ?_); rintro e w1 ⟨rfl, hr, hk⟩; replace hr := Aside0.mk hr; replace hk := Aside0.mk hk)
      go_ret2
      exact ⟨_, _, _, _, rfl, ⟨rfl, rfl⟩, (hr.out.grow (fun k hk => .inl hk)).nocl, hk.out⟩
    · have e1 : ((c.toNat : Int) == 13) = false := beq_eq_false_iff_ne.2 h1
      rw [if_neg h1]
      clear h1
      have hways : ((((c.toNat : Int) < 32 ∧ (c.toNat : Int) ≠ 9) ∨ (c.toNat : Int) = 127) ∧ ((decide ((c.toNat : Int) < 32) = true ∧ ((c.toNat : Int) == 9) = false) ∨ (decide ((c.toNat : Int) < 32) = false ∧ ((c.toNat : Int) == 127) = true))) ∨ (¬ (((c.toNat : Int) < 32 ∧ (c.toNat : Int) ≠ 9) ∨ (c.toNat : Int) = 127) ∧ ((decide ((c.toNat : Int) < 32) = true ∧ ((c.toNat : Int) == 9) = true ∧ ((c.toNat : Int) == 127) = false) ∨ (decide ((c.toNat : Int) < 32) = false ∧ ((c.toNat : Int) == 127) = false))) := by
        by_cases a1 : (c.toNat : Int) < 32 <;> by_cases a2 : (c.toNat : Int) = 9 <;> by_cases a3 : (c.toNat : Int) = 127 <;> simp [a1, a2, a3] <;> omega
      rcases hways with ⟨hp, ⟨q1, q2⟩ | ⟨q1, q2⟩⟩ | ⟨hp, ⟨q1, q2, q3⟩ | ⟨q1, q2⟩⟩
      · have q3 : ((c.toNat : Int) != 9) = true := by simpa using q2
        rw [if_pos hp]
        clear hp
        go_enter Tryd.func25, Tryd.ntmps25
        go_wp2_with (go_at_call 24; (with_reducible refine HC.out.mono ?_); rintro e w1 ⟨rfl, hr, hk⟩; replace hr := Aside0.mk hr; replace hk := Aside0.mk hk)
        go_ret2
        exact ⟨_, _, _, _, rfl, ⟨rfl, rfl⟩, (hr.out.grow (fun k hk => .inl hk)).nocl, hk.out⟩
      · rw [if_pos hp]
        clear hp
        go_enter Tryd.func25, Tryd.ntmps25
        go_wp2_with (go_at_call 24; (with_reducible refine HC.out.mono ?_); rintro e w1 ⟨rfl, hr, hk⟩; replace hr := Aside0.mk hr; replace hk := Aside0.mk hk)
        go_ret2
        exact ⟨_, _, _, _, rfl, ⟨rfl, rfl⟩, (hr.out.grow (fun k hk => .inl hk)).nocl, hk.out⟩
      · have q4 : ((c.toNat : Int) != 9) = false := by simpa using q2
        rw [if_neg hp]
        clear hp
        go_enter Tryd.func25, Tryd.ntmps25
        go_wp2_with (go_at_call 24; (with_reducible refine HC.out.mono ?_); rintro e w1 ⟨rfl, hr, hk⟩; replace hr := Aside0.mk hr; replace hk := Aside0.mk hk)
        go_ret2
        exact ⟨_, _, _, _, rfl, ⟨rfl, rfl⟩, (hr.out.grow (fun k hk => .inl hk)).nocl, hk.out⟩
      · rw [if_neg hp]
        clear hp
        go_enter Tryd.func25, Tryd.ntmps25
        go_wp2_with (go_at_call 24; (with_reducible refine HC.out.mono ?_); rintro e w1 ⟨rfl, hr, hk⟩; replace hr := Aside0.mk hr; replace hk := Aside0.mk hk)
        go_ret2
        exact ⟨_, _, _, _, rfl, ⟨rfl, rfl⟩, (hr.out.grow (fun k hk => .inl hk)).nocl, hk.out⟩
def sizR (R : Rm) : Rm := { R with line := 0, digits := 0, sum := wrap64 (R.sum + R.left) }
def sumR (R : Rm) (s1 : Int) : Rm := { cntR R with sum := s1 }
def linR (R : Rm) (s1 : Int) : Rm := { R with line := 0, sum := s1 }
def stepZ (R : Rm) (c : UInt8) : Stt × Int × Rm :=
  if cntOk R c = false then (.none, 195, cntR R) else if (c.toNat : Int) ≠ 10 then (.none, 200, cntR R) else if 16777216 < wrap64 (R.sum + R.left) then (.none, 4, sizR R) else if R.left = 0 then (.trailer, 0, sizR R) else (.chunk, 0, sizR R)
set_option maxHeartbeats 1000000 in
theorem sized_any (F : Nat → Prop) (B g : Nat) (W : World) (R : Rm) (vs vt vd : Value) (cl : List Nat) (c : UInt8) (h : RdC F B g W R vs vt vd cl) :
    Calls Tryd.prog 26 #[.pointer (some ⟨g, 0, none⟩), .int .u8 (c.toNat : Int)] W (StepP F B g W vs (stepZ R c).1 (stepZ R c).2.1 (stepZ R c).2.2) := by
  have HC := Aside0.mk (counts_any F B g W R vs vt vd cl c h)
  unfold StepP stepZ
  clear h
  obtain ⟨b, hb⟩ : ∃ b, cntOk R c = b := ⟨_, rfl⟩
  rw [hb] at HC ⊢
  clear hb
  cases b with
  | false =>
    rw [if_pos rfl]
    go_enter Tryd.func26, Tryd.ntmps26
    go_wp2_with (go_at_call 24; (with_reducible refine HC.out.mono ?_); rintro e w1 ⟨rfl, hr, hk⟩; have hc1 : w1.cell? ⟨g, 1, none⟩ = some (.int .i64 R.left) := hr.cell 1; have hc2 : w1.cell? ⟨g, 2, none⟩ = some (.int .i64 R.sum) := hr.cell 2; have hf2 := hr.fr 2; replace hr := Aside0.mk hr; replace hk := Aside0.mk hk)
    go_ret2
    exact ⟨_, _, _, _, rfl, ⟨rfl, rfl⟩, (hr.out.grow (fun k hk => .inl hk)).nocl, hk.out⟩
  | true =>
    rw [if_neg (by decide)]
    by_cases h1 : (c.toNat : Int) = 10
    · have e1 : ((c.toNat : Int) != 10) = false := by rw [h1]; rfl
      have e1' : ((c.toNat : Int) == 10) = true := by rw [h1]; rfl
      rw [if_neg (fun e => e h1)]
      clear h1
      obtain ⟨s1, hs1⟩ : ∃ s1, wrap64 (R.sum + R.left) = s1 := ⟨_, rfl⟩
      have hw : IntKind.i64.wrap (R.sum + R.left) = s1 := (i64_w _).trans hs1
      have HZ : Aside0 (sizR R = { R with line := 0, digits := 0, sum := s1 }) := ⟨by unfold sizR; rw [hs1]⟩
      rw [hs1]
      clear hs1
      by_cases h2 : 16777216 < s1
      · have e2 : decide (16777216 < s1) = true := decide_eq_true h2
        rw [if_pos h2]
        clear h2
        go_enter Tryd.func26, Tryd.ntmps26
        go_upto_region 5 with (go_at_call 24; (with_reducible refine HC.out.mono ?_); rintro e w1 ⟨rfl, hr, hk⟩; have hc1 : w1.cell? ⟨g, 1, none⟩ = some (.int .i64 R.left) := hr.cell 1; have hc2 : w1.cell? ⟨g, 2, none⟩ = some (.int .i64 R.sum) := hr.cell 2; have hf2 := hr.fr 2; replace hr := Aside0.mk hr; replace hk := Aside0.mk hk)
        go_upto_region 6 with (go_region)
        have HR2 : Aside0 (RdC (Fnew F W) B g (w1.setCell ⟨g, 2, none⟩ (.int .i64 s1)).drew (sumR R s1) vs vt vd cl) := ⟨(RdC.put (R' := sumR R s1) (hr.out.grow (G := Fnew F W) (fun k hk => Or.inl hk)) 2 (.int .i64 s1) rfl rfl rfl).drew⟩
        have HK2 : Aside0 (KW F W (w1.setCell ⟨g, 2, none⟩ (.int .i64 s1)).drew) := ⟨(hk.out.set g 2 (.int .i64 s1) hr.out.gf).drew⟩
        have HGF := Aside0.mk hr.out.gf
        clear hr hk hc1 hc2 hf2
        generalize (w1.setCell ⟨g, 2, none⟩ (.int .i64 s1)).drew = W2 at HR2 HK2 ⊢
        have hc4 : W2.cell? ⟨g, 4, none⟩ = some (.int .i64 (cntR R).line) := HR2.out.cell 4
        have hc3 : W2.cell? ⟨g, 3, none⟩ = some (.int .i64 R.digits) := HR2.out.cell 3
        have hf4 := HR2.out.fr 4
        have hf3 := HR2.out.fr 3
        have hn43 : (W2.setCell ⟨g, 4, none⟩ (.int .i64 0)).cell? ⟨g, 3, none⟩ = some (.int .i64 R.digits) := (RdC.put (R' := linR R s1) HR2.out 4 (.int .i64 0) rfl rfl rfl).cell 3
        go_upto_region 7 with fail
        have HR3 : Aside0 (RdC (Fnew F W) B g ((W2.setCell ⟨g, 4, none⟩ (.int .i64 0)).setCell ⟨g, 3, none⟩ (.int .i64 0)) { R with line := 0, digits := 0, sum := s1 } vs vt vd cl) := ⟨RdC.put (R := linR R s1) (RdC.put (R' := linR R s1) HR2.out 4 (.int .i64 0) rfl rfl rfl) 3 (.int .i64 0) rfl rfl rfl⟩
        have HK3 : Aside0 (KW F W ((W2.setCell ⟨g, 4, none⟩ (.int .i64 0)).setCell ⟨g, 3, none⟩ (.int .i64 0))) := ⟨(HK2.out.set g 4 (.int .i64 0) HGF.out).set g 3 (.int .i64 0) HGF.out⟩
        clear HR2 HK2 hc4 hc3 hf4 hf3 hn43
        generalize (W2.setCell ⟨g, 4, none⟩ (.int .i64 0)).setCell ⟨g, 3, none⟩ (.int .i64 0) = W3 at HR3 HK3 ⊢
        have hc1 : W3.cell? ⟨g, 1, none⟩ = some (.int .i64 R.left) := HR3.out.cell 1
        have hc2 : W3.cell? ⟨g, 2, none⟩ = some (.int .i64 s1) := HR3.out.cell 2
        go_wp2_with fail
        go_ret2
        exact ⟨_, _, _, _, rfl, ⟨rfl, rfl⟩, (by rw [HZ.out]; exact HR3.out.nocl), HK3.out⟩
      · have e2 : decide (16777216 < s1) = false := decide_eq_false h2
        rw [if_neg h2]
        clear h2
        by_cases h3 : R.left = 0
        · have e3 : (R.left == 0) = true := beq_iff_eq.2 h3
          rw [if_pos h3]
          clear h3
          go_enter Tryd.func26, Tryd.ntmps26
          go_upto_region 5 with (go_at_call 24; (with_reducible refine HC.out.mono ?_); rintro e w1 ⟨rfl, hr, hk⟩; have hc1 : w1.cell? ⟨g, 1, none⟩ = some (.int .i64 R.left) := hr.cell 1; have hc2 : w1.cell? ⟨g, 2, none⟩ = some (.int .i64 R.sum) := hr.cell 2; have hf2 := hr.fr 2; replace hr := Aside0.mk hr; replace hk := Aside0.mk hk)
          go_upto_region 6 with (go_region)
          have HR2 : Aside0 (RdC (Fnew F W) B g (w1.setCell ⟨g, 2, none⟩ (.int .i64 s1)).drew (sumR R s1) vs vt vd cl) := ⟨(RdC.put (R' := sumR R s1) (hr.out.grow (G := Fnew F W) (fun k hk => Or.inl hk)) 2 (.int .i64 s1) rfl rfl rfl).drew⟩
          have HK2 : Aside0 (KW F W (w1.setCell ⟨g, 2, none⟩ (.int .i64 s1)).drew) := ⟨(hk.out.set g 2 (.int .i64 s1) hr.out.gf).drew⟩
          have HGF := Aside0.mk hr.out.gf
          clear hr hk hc1 hc2 hf2
          generalize (w1.setCell ⟨g, 2, none⟩ (.int .i64 s1)).drew = W2 at HR2 HK2 ⊢
          have hc4 : W2.cell? ⟨g, 4, none⟩ = some (.int .i64 (cntR R).line) := HR2.out.cell 4
          have hc3 : W2.cell? ⟨g, 3, none⟩ = some (.int .i64 R.digits) := HR2.out.cell 3
          have hf4 := HR2.out.fr 4
          have hf3 := HR2.out.fr 3
          have hn43 : (W2.setCell ⟨g, 4, none⟩ (.int .i64 0)).cell? ⟨g, 3, none⟩ = some (.int .i64 R.digits) := (RdC.put (R' := linR R s1) HR2.out 4 (.int .i64 0) rfl rfl rfl).cell 3
          go_upto_region 7 with fail
          have HR3 : Aside0 (RdC (Fnew F W) B g ((W2.setCell ⟨g, 4, none⟩ (.int .i64 0)).setCell ⟨g, 3, none⟩ (.int .i64 0)) { R with line := 0, digits := 0, sum := s1 } vs vt vd cl) := ⟨RdC.put (R := linR R s1) (RdC.put (R' := linR R s1) HR2.out 4 (.int .i64 0) rfl rfl rfl) 3 (.int .i64 0) rfl rfl rfl⟩
          have HK3 : Aside0 (KW F W ((W2.setCell ⟨g, 4, none⟩ (.int .i64 0)).setCell ⟨g, 3, none⟩ (.int .i64 0))) := ⟨(HK2.out.set g 4 (.int .i64 0) HGF.out).set g 3 (.int .i64 0) HGF.out⟩
          clear HR2 HK2 hc4 hc3 hf4 hf3 hn43
          generalize (W2.setCell ⟨g, 4, none⟩ (.int .i64 0)).setCell ⟨g, 3, none⟩ (.int .i64 0) = W3 at HR3 HK3 ⊢
          have hc1 : W3.cell? ⟨g, 1, none⟩ = some (.int .i64 R.left) := HR3.out.cell 1
          have hc2 : W3.cell? ⟨g, 2, none⟩ = some (.int .i64 s1) := HR3.out.cell 2
          go_wp2_with fail
          go_ret2
          exact ⟨_, _, _, _, rfl, ⟨rfl, rfl⟩, (by rw [HZ.out]; exact HR3.out.nocl), HK3.out⟩
        · have e3 : (R.left == 0) = false := beq_eq_false_iff_ne.2 h3
          rw [if_neg h3]
          clear h3
          go_enter Tryd.func26, Tryd.ntmps26
          go_upto_region 5 with (go_at_call 24; (with_reducible refine HC.out.mono ?_); rintro e w1 ⟨rfl, hr, hk⟩; have hc1 : w1.cell? ⟨g, 1, none⟩ = some (.int .i64 R.left) := hr.cell 1; have hc2 : w1.cell? ⟨g, 2, none⟩ = some (.int .i64 R.sum) := hr.cell 2; have hf2 := hr.fr 2; replace hr := Aside0.mk hr; replace hk := Aside0.mk hk)
          go_upto_region 6 with (go_region)
          have HR2 : Aside0 (RdC (Fnew F W) B g (w1.setCell ⟨g, 2, none⟩ (.int .i64 s1)).drew (sumR R s1) vs vt vd cl) := ⟨(RdC.put (R' := sumR R s1) (hr.out.grow (G := Fnew F W) (fun k hk => Or.inl hk)) 2 (.int .i64 s1) rfl rfl rfl).drew⟩
          have HK2 : Aside0 (KW F W (w1.setCell ⟨g, 2, none⟩ (.int .i64 s1)).drew) := ⟨(hk.out.set g 2 (.int .i64 s1) hr.out.gf).drew⟩
          have HGF := Aside0.mk hr.out.gf
          clear hr hk hc1 hc2 hf2
          generalize (w1.setCell ⟨g, 2, none⟩ (.int .i64 s1)).drew = W2 at HR2 HK2 ⊢
          have hc4 : W2.cell? ⟨g, 4, none⟩ = some (.int .i64 (cntR R).line) := HR2.out.cell 4
          have hc3 : W2.cell? ⟨g, 3, none⟩ = some (.int .i64 R.digits) := HR2.out.cell 3
          have hf4 := HR2.out.fr 4
          have hf3 := HR2.out.fr 3
          have hn43 : (W2.setCell ⟨g, 4, none⟩ (.int .i64 0)).cell? ⟨g, 3, none⟩ = some (.int .i64 R.digits) := (RdC.put (R' := linR R s1) HR2.out 4 (.int .i64 0) rfl rfl rfl).cell 3
          go_upto_region 7 with fail
          have HR3 : Aside0 (RdC (Fnew F W) B g ((W2.setCell ⟨g, 4, none⟩ (.int .i64 0)).setCell ⟨g, 3, none⟩ (.int .i64 0)) { R with line := 0, digits := 0, sum := s1 } vs vt vd cl) := ⟨RdC.put (R := linR R s1) (RdC.put (R' := linR R s1) HR2.out 4 (.int .i64 0) rfl rfl rfl) 3 (.int .i64 0) rfl rfl rfl⟩
          have HK3 : Aside0 (KW F W ((W2.setCell ⟨g, 4, none⟩ (.int .i64 0)).setCell ⟨g, 3, none⟩ (.int .i64 0))) := ⟨(HK2.out.set g 4 (.int .i64 0) HGF.out).set g 3 (.int .i64 0) HGF.out⟩
          clear HR2 HK2 hc4 hc3 hf4 hf3 hn43
          generalize (W2.setCell ⟨g, 4, none⟩ (.int .i64 0)).setCell ⟨g, 3, none⟩ (.int .i64 0) = W3 at HR3 HK3 ⊢
          have hc1 : W3.cell? ⟨g, 1, none⟩ = some (.int .i64 R.left) := HR3.out.cell 1
          have hc2 : W3.cell? ⟨g, 2, none⟩ = some (.int .i64 s1) := HR3.out.cell 2
          go_wp2_with fail
          go_ret2
          exact ⟨_, _, _, _, rfl, ⟨rfl, rfl⟩, (by rw [HZ.out]; exact HR3.out.nocl), HK3.out⟩
    · have e1 : ((c.toNat : Int) != 10) = true := bne_iff_ne.2 h1
      have e1' : ((c.toNat : Int) == 10) = false := beq_eq_false_iff_ne.2 h1
      rw [if_pos h1]
      clear h1
      go_enter Tryd.func26, Tryd.ntmps26
      go_wp2_with (go_at_call 24; (with_reducible refine HC.out.mono ?_); rintro e w1 ⟨rfl, hr, hk⟩; have hc1 : w1.cell? ⟨g, 1, none⟩ = some (.int .i64 R.left) := hr.cell 1; have hc2 : w1.cell? ⟨g, 2, none⟩ = some (.int .i64 R.sum) := hr.cell 2; have hf2 := hr.fr 2; replace hr := Aside0.mk hr; replace hk := Aside0.mk hk)
      go_ret2
      exact ⟨_, _, _, _, rfl, ⟨rfl, rfl⟩, (hr.out.grow (fun k hk => .inl hk)).nocl, hk.out⟩
end Go.Proofs.YtllcfifeaacmiaaDoor.Pr
