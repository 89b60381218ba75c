import Derived.Test.YtllcfifeaacmiaaDoorRn
import Derived.Test.YtllcfifeaacmiaaDoorPrA1
namespace Go.Proofs.YtllcfifeaacmiaaDoor.Pr
open Go.RowKit Go.Proofs.YtllcfifeaacmiaaDoorW.PrintWords Go.Proofs.YtllcfifeaacmiaaDoorW.PrintLast Go.Proofs.YtllcfifeaacmiaaDoorW.PrintMore
set_option linter.unusedVariables false
set_option linter.unusedSimpArgs false

/-! ### extra, sized, digit -/
def stepX (R : Rm) (c : UInt8) : Stt × Int :=
  if cntOk R c = false then (.none, 195) else if (c.toNat : Int) = 13 then (.sized, 0) else if ((c.toNat : Int) < 32 ∧ (c.toNat : Int) ≠ 9) ∨ (c.toNat : Int) = 127 then (.none, 200) else (.extra, 0)
theorem extra_any (F : Nat → Prop) (B g : Nat) (W : World) (R : Rm) (vs vt vd : Value) (cl : List Nat) (c : UInt8) (h : RdC F B g W R vs vt vd cl) :
    Calls Tryd.prog 25 #[.pointer (some ⟨g, 0, none⟩), .int .u8 (c.toNat : Int)] W (StepP F B g W vs (stepX R c).1 (stepX R c).2 (cntR R)) := by
  have HC := Aside0.mk (counts_any F B g W R vs vt vd cl c h)
  unfold StepP stepX
  clear h
  obtain ⟨b, hb⟩ : ∃ b, cntOk R c = b := ⟨_, rfl⟩
  rw [hb] at HC ⊢
  clear hb
  cases b with
  | false =>
    rw [if_pos rfl]
    go_enter Tryd.func25, Tryd.ntmps25
    go_wp2_with (go_at_call 24; (with_reducible refine HC.out.mono ?_); rintro e w1 ⟨rfl, hr, hk⟩; replace hr := Aside0.mk hr; replace hk := Aside0.mk hk)
    go_ret2
    exact ⟨_, _, _, _, rfl, ⟨rfl, rfl⟩, (hr.out.grow (fun k hk => .inl hk)).nocl, hk.out⟩
  | true =>
    rw [if_neg (by decide)]
    by_cases h1 : (c.toNat : Int) = 13
    · have e1 : ((c.toNat : Int) == 13) = true := beq_iff_eq.2 h1
      rw [if_pos h1]
      clear h1
      go_enter Tryd.func25, Tryd.ntmps25
      go_wp2_with (go_at_call 24; (with_reducible refine HC.out.mono ?_); rintro e w1 ⟨rfl, hr, hk⟩; replace hr := Aside0.mk hr; replace hk := Aside0.mk hk)
      go_ret2
      exact ⟨_, _, _, _, rfl, ⟨rfl, rfl⟩, (hr.out.grow (fun k hk => .inl hk)).nocl, hk.out⟩
    · have e1 : ((c.toNat : Int) == 13) = false := beq_eq_false_iff_ne.2 h1
      rw [if_neg h1]
      clear h1
      have hways : ((((c.toNat : Int) < 32 ∧ (c.toNat : Int) ≠ 9) ∨ (c.toNat : Int) = 127) ∧ ((decide ((c.toNat : Int) < 32) = true ∧ ((c.toNat : Int) == 9) = false) ∨ (decide ((c.toNat : Int) < 32) = false ∧ ((c.toNat : Int) == 127) = true))) ∨ (¬ (((c.toNat : Int) < 32 ∧ (c.toNat : Int) ≠ 9) ∨ (c.toNat : Int) = 127) ∧ ((decide ((c.toNat : Int) < 32) = true ∧ ((c.toNat : Int) == 9) = true ∧ ((c.toNat : Int) == 127) = false) ∨ (decide ((c.toNat : Int) < 32) = false ∧ ((c.toNat : Int) == 127) = false))) := by
        by_cases a1 : (c.toNat : Int) < 32 <;> by_cases a2 : (c.toNat : Int) = 9 <;> by_cases a3 : (c.toNat : Int) = 127 <;> simp [a1, a2, a3] <;> omega
      rcases hways with ⟨hp, ⟨q1, q2⟩ | ⟨q1, q2⟩⟩ | ⟨hp, ⟨q1, q2, q3⟩ | ⟨q1, q2⟩⟩
      · have q3 : ((c.toNat : Int) != 9) = true := by simpa using q2
        rw [if_pos hp]
        clear hp
        go_enter Tryd.func25, Tryd.ntmps25
        go_wp2_with (go_at_call 24; (with_reducible refine HC.out.mono ?_); rintro e w1 ⟨rfl, hr, hk⟩; replace hr := Aside0.mk hr; replace hk := Aside0.mk hk)
        go_ret2
        exact ⟨_, _, _, _, rfl, ⟨rfl, rfl⟩, (hr.out.grow (fun k hk => .inl hk)).nocl, hk.out⟩
      · rw [if_pos hp]
        clear hp
        go_enter Tryd.func25, Tryd.ntmps25
        go_wp2_with (go_at_call 24; (with_reducible refine HC.out.mono ?_); rintro e w1 ⟨rfl, hr, hk⟩; replace hr := Aside0.mk hr; replace hk := Aside0.mk hk)
        go_ret2
        exact ⟨_, _, _, _, rfl, ⟨rfl, rfl⟩, (hr.out.grow (fun k hk => .inl hk)).nocl, hk.out⟩
      · have q4 : ((c.toNat : Int) != 9) = false := by simpa using q2
        rw [if_neg hp]
        clear hp
        go_enter Tryd.func25, Tryd.ntmps25
        go_wp2_with (go_at_call 24; (with_reducible refine HC.out.mono ?_); rintro e w1 ⟨rfl, hr, hk⟩; replace hr := Aside0.mk hr; replace hk := Aside0.mk hk)
        go_ret2
        exact ⟨_, _, _, _, rfl, ⟨rfl, rfl⟩, (hr.out.grow (fun k hk => .inl hk)).nocl, hk.out⟩
      · rw [if_neg hp]
        clear hp
        go_enter Tryd.func25, Tryd.ntmps25
        go_wp2_with (go_at_call 24; (with_reducible refine HC.out.mono ?_); rintro e w1 ⟨rfl, hr, hk⟩; replace hr := Aside0.mk hr; replace hk := Aside0.mk hk)
        go_ret2
        exact ⟨_, _, _, _, rfl, ⟨rfl, rfl⟩, (hr.out.grow (fun k hk => .inl hk)).nocl, hk.out⟩
def sizR (R : Rm) : Rm := { R with line := 0, digits := 0, sum := wrap64 (R.sum + R.left) }
def sumR (R : Rm) (s1 : Int) : Rm := { cntR R with sum := s1 }
def linR (R : Rm) (s1 : Int) : Rm := { R with line := 0, sum := s1 }
def stepZ (R : Rm) (c : UInt8) : Stt × Int × Rm :=
  if cntOk R c = false then (.none, 195, cntR R) else if (c.toNat : Int) ≠ 10 then (.none, 200, cntR R) else if 16777216 < wrap64 (R.sum + R.left) then (.none, 4, sizR R) else if R.left = 0 then (.trailer, 0, sizR R) else (.chunk, 0, sizR R)
set_option maxHeartbeats 1000000 in
theorem sized_any (F : Nat → Prop) (B g : Nat) (W : World) (R : Rm) (vs vt vd : Value) (cl : List Nat) (c : UInt8) (h : RdC F B g W R vs vt vd cl) :
    Calls Tryd.prog 26 #[.pointer (some ⟨g, 0, none⟩), .int .u8 (c.toNat : Int)] W (StepP F B g W vs (stepZ R c).1 (stepZ R c).2.1 (stepZ R c).2.2) := by
  have HC := Aside0.mk (counts_any F B g W R vs vt vd cl c h)
  unfold StepP stepZ
  clear h
  obtain ⟨b, hb⟩ : ∃ b, cntOk R c = b := ⟨_, rfl⟩
  rw [hb] at HC ⊢
  clear hb
  cases b with
  | false =>
    rw [if_pos rfl]
    go_enter Tryd.func26, Tryd.ntmps26
    go_wp2_with (go_at_call 24; (with_reducible refine HC.out.mono ?_); rintro e w1 ⟨rfl, hr, hk⟩; have hc1 : w1.cell? ⟨g, 1, none⟩ = some (.int .i64 R.left) := hr.cell 1; have hc2 : w1.cell? ⟨g, 2, none⟩ = some (.int .i64 R.sum) := hr.cell 2; have hf2 := hr.fr 2; replace hr := Aside0.mk hr; replace hk := Aside0.mk hk)
    go_ret2
    exact ⟨_, _, _, _, rfl, ⟨rfl, rfl⟩, (hr.out.grow (fun k hk => .inl hk)).nocl, hk.out⟩
  | true =>
    rw [if_neg (by decide)]
    by_cases h1 : (c.toNat : Int) = 10
    · have e1 : ((c.toNat : Int) != 10) = false := by rw [h1]; rfl
      have e1' : ((c.toNat : Int) == 10) = true := by rw [h1]; rfl
      rw [if_neg (fun e => e h1)]
      clear h1
      obtain ⟨s1, hs1⟩ : ∃ s1, wrap64 (R.sum + R.left) = s1 := ⟨_, rfl⟩
      have hw : IntKind.i64.wrap (R.sum + R.left) = s1 := (i64_w _).trans hs1
      have HZ : Aside0 (sizR R = { R with line := 0, digits := 0, sum := s1 }) := ⟨by unfold sizR; rw [hs1]⟩
      rw [hs1]
      clear hs1
      by_cases h2 : 16777216 < s1
      · have e2 : decide (16777216 < s1) = true := decide_eq_true h2
        rw [if_pos h2]
        clear h2
        go_enter Tryd.func26, Tryd.ntmps26
        go_upto_region 5 with (go_at_call 24; (with_reducible refine HC.out.mono ?_); rintro e w1 ⟨rfl, hr, hk⟩; have hc1 : w1.cell? ⟨g, 1, none⟩ = some (.int .i64 R.left) := hr.cell 1; have hc2 : w1.cell? ⟨g, 2, none⟩ = some (.int .i64 R.sum) := hr.cell 2; have hf2 := hr.fr 2; replace hr := Aside0.mk hr; replace hk := Aside0.mk hk)
        go_upto_region 6 with (go_region)
        have HR2 : Aside0 (RdC (Fnew F W) B g (w1.setCell ⟨g, 2, none⟩ (.int .i64 s1)).drew (sumR R s1) vs vt vd cl) := ⟨(RdC.put (R' := sumR R s1) (hr.out.grow (G := Fnew F W) (fun k hk => Or.inl hk)) 2 (.int .i64 s1) rfl rfl rfl).drew⟩
        have HK2 : Aside0 (KW F W (w1.setCell ⟨g, 2, none⟩ (.int .i64 s1)).drew) := ⟨(hk.out.set g 2 (.int .i64 s1) hr.out.gf).drew⟩
        have HGF := Aside0.mk hr.out.gf
        clear hr hk hc1 hc2 hf2
        generalize (w1.setCell ⟨g, 2, none⟩ (.int .i64 s1)).drew = W2 at HR2 HK2 ⊢
        have hc4 : W2.cell? ⟨g, 4, none⟩ = some (.int .i64 (cntR R).line) := HR2.out.cell 4
        have hc3 : W2.cell? ⟨g, 3, none⟩ = some (.int .i64 R.digits) := HR2.out.cell 3
        have hf4 := HR2.out.fr 4
        have hf3 := HR2.out.fr 3
        have hn43 : (W2.setCell ⟨g, 4, none⟩ (.int .i64 0)).cell? ⟨g, 3, none⟩ = some (.int .i64 R.digits) := (RdC.put (R' := linR R s1) HR2.out 4 (.int .i64 0) rfl rfl rfl).cell 3
        go_upto_region 7 with fail
        have HR3 : Aside0 (RdC (Fnew F W) B g ((W2.setCell ⟨g, 4, none⟩ (.int .i64 0)).setCell ⟨g, 3, none⟩ (.int .i64 0)) { R with line := 0, digits := 0, sum := s1 } vs vt vd cl) := ⟨RdC.put (R := linR R s1) (RdC.put (R' := linR R s1) HR2.out 4 (.int .i64 0) rfl rfl rfl) 3 (.int .i64 0) rfl rfl rfl⟩
        have HK3 : Aside0 (KW F W ((W2.setCell ⟨g, 4, none⟩ (.int .i64 0)).setCell ⟨g, 3, none⟩ (.int .i64 0))) := ⟨(HK2.out.set g 4 (.int .i64 0) HGF.out).set g 3 (.int .i64 0) HGF.out⟩
        clear HR2 HK2 hc4 hc3 hf4 hf3 hn43
        generalize (W2.setCell ⟨g, 4, none⟩ (.int .i64 0)).setCell ⟨g, 3, none⟩ (.int .i64 0) = W3 at HR3 HK3 ⊢
        have hc1 : W3.cell? ⟨g, 1, none⟩ = some (.int .i64 R.left) := HR3.out.cell 1
        have hc2 : W3.cell? ⟨g, 2, none⟩ = some (.int .i64 s1) := HR3.out.cell 2
        go_wp2_with fail
        go_ret2
        exact ⟨_, _, _, _, rfl, ⟨rfl, rfl⟩, (by rw [HZ.out]; exact HR3.out.nocl), HK3.out⟩
      · have e2 : decide (16777216 < s1) = false := decide_eq_false h2
        rw [if_neg h2]
        clear h2
        by_cases h3 : R.left = 0
        · have e3 : (R.left == 0) = true := beq_iff_eq.2 h3
          rw [if_pos h3]
          clear h3
          go_enter Tryd.func26, Tryd.ntmps26
          go_upto_region 5 with (go_at_call 24; (with_reducible refine HC.out.mono ?_); rintro e w1 ⟨rfl, hr, hk⟩; have hc1 : w1.cell? ⟨g, 1, none⟩ = some (.int .i64 R.left) := hr.cell 1; have hc2 : w1.cell? ⟨g, 2, none⟩ = some (.int .i64 R.sum) := hr.cell 2; have hf2 := hr.fr 2; replace hr := Aside0.mk hr; replace hk := Aside0.mk hk)
          go_upto_region 6 with (go_region)
          have HR2 : Aside0 (RdC (Fnew F W) B g (w1.setCell ⟨g, 2, none⟩ (.int .i64 s1)).drew (sumR R s1) vs vt vd cl) := ⟨(RdC.put (R' := sumR R s1) (hr.out.grow (G := Fnew F W) (fun k hk => Or.inl hk)) 2 (.int .i64 s1) rfl rfl rfl).drew⟩
          have HK2 : Aside0 (KW F W (w1.setCell ⟨g, 2, none⟩ (.int .i64 s1)).drew) := ⟨(hk.out.set g 2 (.int .i64 s1) hr.out.gf).drew⟩
          have HGF := Aside0.mk hr.out.gf
          clear hr hk hc1 hc2 hf2
          generalize (w1.setCell ⟨g, 2, none⟩ (.int .i64 s1)).drew = W2 at HR2 HK2 ⊢
          have hc4 : W2.cell? ⟨g, 4, none⟩ = some (.int .i64 (cntR R).line) := HR2.out.cell 4
          have hc3 : W2.cell? ⟨g, 3, none⟩ = some (.int .i64 R.digits) := HR2.out.cell 3
          have hf4 := HR2.out.fr 4
          have hf3 := HR2.out.fr 3
          have hn43 : (W2.setCell ⟨g, 4, none⟩ (.int .i64 0)).cell? ⟨g, 3, none⟩ = some (.int .i64 R.digits) := (RdC.put (R' := linR R s1) HR2.out 4 (.int .i64 0) rfl rfl rfl).cell 3
          go_upto_region 7 with fail
          have HR3 : Aside0 (RdC (Fnew F W) B g ((W2.setCell ⟨g, 4, none⟩ (.int .i64 0)).setCell ⟨g, 3, none⟩ (.int .i64 0)) { R with line := 0, digits := 0, sum := s1 } vs vt vd cl) := ⟨RdC.put (R := linR R s1) (RdC.put (R' := linR R s1) HR2.out 4 (.int .i64 0) rfl rfl rfl) 3 (.int .i64 0) rfl rfl rfl⟩
          have HK3 : Aside0 (KW F W ((W2.setCell ⟨g, 4, none⟩ (.int .i64 0)).setCell ⟨g, 3, none⟩ (.int .i64 0))) := ⟨(HK2.out.set g 4 (.int .i64 0) HGF.out).set g 3 (.int .i64 0) HGF.out⟩
          clear HR2 HK2 hc4 hc3 hf4 hf3 hn43
          generalize (W2.setCell ⟨g, 4, none⟩ (.int .i64 0)).setCell ⟨g, 3, none⟩ (.int .i64 0) = W3 at HR3 HK3 ⊢
          have hc1 : W3.cell? ⟨g, 1, none⟩ = some (.int .i64 R.left) := HR3.out.cell 1
          have hc2 : W3.cell? ⟨g, 2, none⟩ = some (.int .i64 s1) := HR3.out.cell 2
          go_wp2_with fail
          go_ret2
          exact ⟨_, _, _, _, rfl, ⟨rfl, rfl⟩, (by rw [HZ.out]; exact HR3.out.nocl), HK3.out⟩
        · have e3 : (R.left == 0) = false := beq_eq_false_iff_ne.2 h3
          rw [if_neg h3]
          clear h3
          go_enter Tryd.func26, Tryd.ntmps26
          go_upto_region 5 with (go_at_call 24; (with_reducible refine HC.out.mono ?_); rintro e w1 ⟨rfl, hr, hk⟩; have hc1 : w1.cell? ⟨g, 1, none⟩ = some (.int .i64 R.left) := hr.cell 1; have hc2 : w1.cell? ⟨g, 2, none⟩ = some (.int .i64 R.sum) := hr.cell 2; have hf2 := hr.fr 2; replace hr := Aside0.mk hr; replace hk := Aside0.mk hk)
          go_upto_region 6 with (go_region)
          have HR2 : Aside0 (RdC (Fnew F W) B g (w1.setCell ⟨g, 2, none⟩ (.int .i64 s1)).drew (sumR R s1) vs vt vd cl) := ⟨(RdC.put (R' := sumR R s1) (hr.out.grow (G := Fnew F W) (fun k hk => Or.inl hk)) 2 (.int .i64 s1) rfl rfl rfl).drew⟩
          have HK2 : Aside0 (KW F W (w1.setCell ⟨g, 2, none⟩ (.int .i64 s1)).drew) := ⟨(hk.out.set g 2 (.int .i64 s1) hr.out.gf).drew⟩
          have HGF := Aside0.mk hr.out.gf
          clear hr hk hc1 hc2 hf2
          generalize (w1.setCell ⟨g, 2, none⟩ (.int .i64 s1)).drew = W2 at HR2 HK2 ⊢
          have hc4 : W2.cell? ⟨g, 4, none⟩ = some (.int .i64 (cntR R).line) := HR2.out.cell 4
          have hc3 : W2.cell? ⟨g, 3, none⟩ = some (.int .i64 R.digits) := HR2.out.cell 3
          have hf4 := HR2.out.fr 4
          have hf3 := HR2.out.fr 3
          have hn43 : (W2.setCell ⟨g, 4, none⟩ (.int .i64 0)).cell? ⟨g, 3, none⟩ = some (.int .i64 R.digits) := (RdC.put (R' := linR R s1) HR2.out 4 (.int .i64 0) rfl rfl rfl).cell 3
          go_upto_region 7 with fail
          have HR3 : Aside0 (RdC (Fnew F W) B g ((W2.setCell ⟨g, 4, none⟩ (.int .i64 0)).setCell ⟨g, 3, none⟩ (.int .i64 0)) { R with line := 0, digits := 0, sum := s1 } vs vt vd cl) := ⟨RdC.put (R := linR R s1) (RdC.put (R' := linR R s1) HR2.out 4 (.int .i64 0) rfl rfl rfl) 3 (.int .i64 0) rfl rfl rfl⟩
          have HK3 : Aside0 (KW F W ((W2.setCell ⟨g, 4, none⟩ (.int .i64 0)).setCell ⟨g, 3, none⟩ (.int .i64 0))) := ⟨(HK2.out.set g 4 (.int .i64 0) HGF.out).set g 3 (.int .i64 0) HGF.out⟩
          clear HR2 HK2 hc4 hc3 hf4 hf3 hn43
          generalize (W2.setCell ⟨g, 4, none⟩ (.int .i64 0)).setCell ⟨g, 3, none⟩ (.int .i64 0) = W3 at HR3 HK3 ⊢
          have hc1 : W3.cell? ⟨g, 1, none⟩ = some (.int .i64 R.left) := HR3.out.cell 1
          have hc2 : W3.cell? ⟨g, 2, none⟩ = some (.int .i64 s1) := HR3.out.cell 2
          go_wp2_with fail
          go_ret2
          exact ⟨_, _, _, _, rfl, ⟨rfl, rfl⟩, (by rw [HZ.out]; exact HR3.out.nocl), HK3.out⟩
    · have e1 : ((c.toNat : Int) != 10) = true := bne_iff_ne.2 h1
      have e1' : ((c.toNat : Int) == 10) = false := beq_eq_false_iff_ne.2 h1
      rw [if_pos h1]
      clear h1
      go_enter Tryd.func26, Tryd.ntmps26
      go_wp2_with (go_at_call 24; (with_reducible refine HC.out.mono ?_); rintro e w1 ⟨rfl, hr, hk⟩; have hc1 : w1.cell? ⟨g, 1, none⟩ = some (.int .i64 R.left) := hr.cell 1; have hc2 : w1.cell? ⟨g, 2, none⟩ = some (.int .i64 R.sum) := hr.cell 2; have hf2 := hr.fr 2; replace hr := Aside0.mk hr; replace hk := Aside0.mk hk)
      go_ret2
      exact ⟨_, _, _, _, rfl, ⟨rfl, rfl⟩, (hr.out.grow (fun k hk => .inl hk)).nocl, hk.out⟩
end Go.Proofs.YtllcfifeaacmiaaDoor.Pr
namespace Go.Proofs.YtllcfifeaacmiaaDoor.Pr
open Go.RowKit Go.Proofs.YtllcfifeaacmiaaDoorW.PrintWords Go.Proofs.YtllcfifeaacmiaaDoorW.PrintLast Go.Proofs.YtllcfifeaacmiaaDoorW.PrintMore
set_option linter.unusedVariables false
set_option linter.unusedSimpArgs false

/-! ### digit -/
def valI (c : UInt8) : Int := if 48 ≤ c.toNat ∧ c.toNat ≤ 57 then (c.toNat : Int) - 48 else if 97 ≤ c.toNat ∧ c.toNat ≤ 102 then (c.toNat : Int) - 87 else if 65 ≤ c.toNat ∧ c.toNat ≤ 70 then (c.toNat : Int) - 55 else 16
theorem val_all : ((List.range 256).all fun n => decide (body_value.f 5 (n : Int) = some (valI (UInt8.ofNat n)))) = true := by decide +kernel
theorem val_is (c : UInt8) : body_value.f 5 (c.toNat : Int) = some (valI c) := by
  have := of_decide_eq_true (List.all_eq_true.1 val_all c.toNat (List.mem_range.2 (UInt8.toNat_lt c)))
  rwa [UInt8.ofNat_toNat] at this
def digR (R : Rm) (v : Int) : Rm := { R with line := wrap64 (R.line + 1), digits := wrap64 (R.digits + 1), left := wrap64 (wrap64 (16 * R.left) + v) }
def setD (R : Rm) (d : Int) : Rm := { R with digits := d }
def setDL (R : Rm) (d l : Int) : Rm := { R with digits := d, left := l }
def stepD (R : Rm) (c : UInt8) (v : Int) : Stt × Int × Rm :=
  if cntOk R c = false then (.none, 195, cntR R) else if v < 16 ∧ R.digits < 8 then (.digit, 0, digR R v) else if v < 16 ∨ R.digits = 0 then (.none, 200, cntR R) else if (c.toNat : Int) = 59 then (.extra, 0, cntR R) else if (c.toNat : Int) = 13 then (.sized, 0, cntR R) else (.none, 200, cntR R)
theorem RdC.low {F : Nat → Prop} {B g : Nat} {W W1 : World} {R : Rm} {vs vt vd : Value} {cl : List Nat} (h : RdC F B g W R vs vt vd cl) (hb : Below W.heap.size W W1) : RdC F B g W1 R vs vt vd cl :=
  ⟨blk_below h.blk hb, h.gf, h.bg, fun k hk => ⟨(h.clf k hk).1, (h.clf k hk).2.1, Nat.lt_of_lt_of_le (h.clf k hk).2.2 hb.size⟩, Kd.R_below h.t hb, Kd.R_below h.d hb⟩
set_option maxHeartbeats 2000000 in
theorem digit_any (F : Nat → Prop) (B g : Nat) (W : World) (R : Rm) (vs vt vd : Value) (cl : List Nat) (c : UInt8) (h : RdC F B g W R vs vt vd cl) :
    Calls Tryd.prog 18 #[.pointer (some ⟨g, 0, none⟩), .int .u8 (c.toNat : Int)] W (StepP F B g W vs (stepD R c (valI c)).1 (stepD R c (valI c)).2.1 (stepD R c (valI c)).2.2) := by
  have HC := Aside0.mk (fun W1 (_ : Below W.heap.size W W1) (h1 : RdC F B g W1 R vs vt vd cl) => counts_any F B g W1 R vs vt vd cl c h1)
  have HV := Aside0.mk (val_is c)
  have hd_ : ∀ {w0}, Drawn0 W w0 → RdC F B g w0 R vs vt vd cl ∧ Drawn0 W w0 := fun hd => ⟨h.low hd.below, hd⟩
  generalize valI c = v at HV ⊢
  unfold StepP stepD
  clear h
  obtain ⟨b, hb⟩ : ∃ b, cntOk R c = b := ⟨_, rfl⟩
  rw [hb] at HC ⊢
  clear hb
  cases b with
  | false =>
    rw [if_pos rfl]
    go_enter Tryd.func18, Tryd.ntmps18
    go_wp2_with (first | (go_at_call 23; (with_reducible refine (body_value.calls 5 (c.toNat : Int) v W HV.out).mono ?_); rintro e w0 ⟨rfl, hd⟩; have HD := Aside0.mk (hd_ hd)) | (go_at_call 24; (with_reducible refine (HC.out _ HD.out.2.below HD.out.1).mono ?_); rintro e w1 ⟨rfl, hr, hk⟩; have hc1 : w1.cell? ⟨g, 1, none⟩ = some (.int .i64 R.left) := hr.cell 1; have hc3 : w1.cell? ⟨g, 3, none⟩ = some (.int .i64 R.digits) := hr.cell 3; have hf1 := hr.fr 1; have hf3 := hr.fr 3; replace hk := Aside0.mk ((KW.of_below HD.out.2.below : KW F W _).trans (hk.mono (fun k _ hf => Or.inl hf))); replace hr := Aside0.mk hr))
    go_ret2
    exact ⟨_, _, _, _, rfl, ⟨rfl, rfl⟩, (hr.out.grow (fun k hk => .inl hk)).nocl, hk.out⟩
  | true =>
    rw [if_neg (by decide)]
    by_cases h1 : v < 16
    · have e1 : decide (v < 16) = true := decide_eq_true h1
      by_cases h2 : R.digits < 8
      · have e2 : decide (R.digits < 8) = true := decide_eq_true h2
        rw [if_pos ⟨h1, h2⟩]
        clear h1 h2
        obtain ⟨d1, hd1⟩ : ∃ d1, wrap64 (R.digits + 1) = d1 := ⟨_, rfl⟩
        obtain ⟨m1, hm1⟩ : ∃ m1, wrap64 (16 * R.left) = m1 := ⟨_, rfl⟩
        obtain ⟨l1, hl1⟩ : ∃ l1, wrap64 (m1 + v) = l1 := ⟨_, rfl⟩
        have hw1 : IntKind.i64.wrap (R.digits + 1) = d1 := (i64_w _).trans hd1
        have hw2 : IntKind.i64.wrap (16 * R.left) = m1 := (i64_w _).trans hm1
        have hw3 : IntKind.i64.wrap (m1 + v) = l1 := (i64_w _).trans hl1
        have HZ : Aside0 (digR R v = setDL (cntR R) d1 l1) := ⟨by unfold digR setDL cntR; rw [hd1, hm1, hl1]⟩
        clear hd1 hm1 hl1
        go_enter Tryd.func18, Tryd.ntmps18
        go_upto_region 5 with (first | (go_at_call 23; (with_reducible refine (body_value.calls 5 (c.toNat : Int) v W HV.out).mono ?_); rintro e w0 ⟨rfl, hd⟩; have HD := Aside0.mk (hd_ hd)) | (go_at_call 24; (with_reducible refine (HC.out _ HD.out.2.below HD.out.1).mono ?_); rintro e w1 ⟨rfl, hr, hk⟩; have hc1 : w1.cell? ⟨g, 1, none⟩ = some (.int .i64 R.left) := hr.cell 1; have hc3 : w1.cell? ⟨g, 3, none⟩ = some (.int .i64 R.digits) := hr.cell 3; have hf1 := hr.fr 1; have hf3 := hr.fr 3; replace hk := Aside0.mk ((KW.of_below HD.out.2.below : KW F W _).trans (hk.mono (fun k _ hf => Or.inl hf))); replace hr := Aside0.mk hr))
        go_upto_region 6 with fail
        have HGF := Aside0.mk hr.out.gf
        have HR2 : Aside0 (RdC F B g (w1.setCell ⟨g, 3, none⟩ (.int .i64 d1)) (setD (cntR R) d1) vs vt vd cl) := ⟨RdC.put (R' := setD (cntR R) d1) hr.out 3 (.int .i64 d1) rfl rfl rfl⟩
        have HK2 : Aside0 (KW F W (w1.setCell ⟨g, 3, none⟩ (.int .i64 d1))) := ⟨hk.out.set g 3 (.int .i64 d1) HGF.out⟩
        clear hr hk hc1 hc3 hf1 hf3
        generalize w1.setCell ⟨g, 3, none⟩ (.int .i64 d1) = W2 at HR2 HK2 ⊢
        have hc1 : W2.cell? ⟨g, 1, none⟩ = some (.int .i64 R.left) := HR2.out.cell 1
        have hf1 := HR2.out.fr 1
        go_wp2_with fail
        go_ret2
        exact ⟨_, _, _, _, rfl, ⟨rfl, rfl⟩, (by rw [HZ.out]; exact ((RdC.put (R' := setDL (cntR R) d1 l1) HR2.out 1 (.int .i64 l1) rfl rfl rfl).grow (fun k hk => .inl hk)).nocl), HK2.out.set g 1 (.int .i64 l1) HGF.out⟩
      · have e2 : decide (R.digits < 8) = false := decide_eq_false h2
        rw [if_neg (fun e => h2 e.2), if_pos (.inl h1)]
        clear h1 h2
        go_enter Tryd.func18, Tryd.ntmps18
        go_wp2_with (first | (go_at_call 23; (with_reducible refine (body_value.calls 5 (c.toNat : Int) v W HV.out).mono ?_); rintro e w0 ⟨rfl, hd⟩; have HD := Aside0.mk (hd_ hd)) | (go_at_call 24; (with_reducible refine (HC.out _ HD.out.2.below HD.out.1).mono ?_); rintro e w1 ⟨rfl, hr, hk⟩; have hc1 : w1.cell? ⟨g, 1, none⟩ = some (.int .i64 R.left) := hr.cell 1; have hc3 : w1.cell? ⟨g, 3, none⟩ = some (.int .i64 R.digits) := hr.cell 3; have hf1 := hr.fr 1; have hf3 := hr.fr 3; replace hk := Aside0.mk ((KW.of_below HD.out.2.below : KW F W _).trans (hk.mono (fun k _ hf => Or.inl hf))); replace hr := Aside0.mk hr))
        go_ret2
        exact ⟨_, _, _, _, rfl, ⟨rfl, rfl⟩, (hr.out.grow (fun k hk => .inl hk)).nocl, hk.out⟩
    · have e1 : decide (v < 16) = false := decide_eq_false h1
      rw [if_neg (fun e => h1 e.1)]
      by_cases h3 : R.digits = 0
      · have e3 : (R.digits == 0) = true := beq_iff_eq.2 h3
        rw [if_pos (.inr h3)]
        clear h1 h3
        go_enter Tryd.func18, Tryd.ntmps18
        go_wp2_with (first | (go_at_call 23; (with_reducible refine (body_value.calls 5 (c.toNat : Int) v W HV.out).mono ?_); rintro e w0 ⟨rfl, hd⟩; have HD := Aside0.mk (hd_ hd)) | (go_at_call 24; (with_reducible refine (HC.out _ HD.out.2.below HD.out.1).mono ?_); rintro e w1 ⟨rfl, hr, hk⟩; have hc1 : w1.cell? ⟨g, 1, none⟩ = some (.int .i64 R.left) := hr.cell 1; have hc3 : w1.cell? ⟨g, 3, none⟩ = some (.int .i64 R.digits) := hr.cell 3; have hf1 := hr.fr 1; have hf3 := hr.fr 3; replace hk := Aside0.mk ((KW.of_below HD.out.2.below : KW F W _).trans (hk.mono (fun k _ hf => Or.inl hf))); replace hr := Aside0.mk hr))
        go_ret2
        exact ⟨_, _, _, _, rfl, ⟨rfl, rfl⟩, (hr.out.grow (fun k hk => .inl hk)).nocl, hk.out⟩
      · have e3 : (R.digits == 0) = false := beq_eq_false_iff_ne.2 h3
        rw [if_neg (fun e => by rcases e with e | e; exact h1 e; exact h3 e)]
        clear h1 h3
        by_cases h4 : (c.toNat : Int) = 59
        · have e4 : ((c.toNat : Int) == 59) = true := beq_iff_eq.2 h4
          rw [if_pos h4]
          clear h4
          go_enter Tryd.func18, Tryd.ntmps18
          go_wp2_with (first | (go_at_call 23; (with_reducible refine (body_value.calls 5 (c.toNat : Int) v W HV.out).mono ?_); rintro e w0 ⟨rfl, hd⟩; have HD := Aside0.mk (hd_ hd)) | (go_at_call 24; (with_reducible refine (HC.out _ HD.out.2.below HD.out.1).mono ?_); rintro e w1 ⟨rfl, hr, hk⟩; have hc1 : w1.cell? ⟨g, 1, none⟩ = some (.int .i64 R.left) := hr.cell 1; have hc3 : w1.cell? ⟨g, 3, none⟩ = some (.int .i64 R.digits) := hr.cell 3; have hf1 := hr.fr 1; have hf3 := hr.fr 3; replace hk := Aside0.mk ((KW.of_below HD.out.2.below : KW F W _).trans (hk.mono (fun k _ hf => Or.inl hf))); replace hr := Aside0.mk hr))
          go_ret2
          exact ⟨_, _, _, _, rfl, ⟨rfl, rfl⟩, (hr.out.grow (fun k hk => .inl hk)).nocl, hk.out⟩
        · have e4 : ((c.toNat : Int) == 59) = false := beq_eq_false_iff_ne.2 h4
          rw [if_neg h4]
          clear h4
          by_cases h5 : (c.toNat : Int) = 13
          · have e5 : ((c.toNat : Int) == 13) = true := beq_iff_eq.2 h5
            rw [if_pos h5]
            clear h5
            go_enter Tryd.func18, Tryd.ntmps18
            go_wp2_with (first | (go_at_call 23; (with_reducible refine (body_value.calls 5 (c.toNat : Int) v W HV.out).mono ?_); rintro e w0 ⟨rfl, hd⟩; have HD := Aside0.mk (hd_ hd)) | (go_at_call 24; (with_reducible refine (HC.out _ HD.out.2.below HD.out.1).mono ?_); rintro e w1 ⟨rfl, hr, hk⟩; have hc1 : w1.cell? ⟨g, 1, none⟩ = some (.int .i64 R.left) := hr.cell 1; have hc3 : w1.cell? ⟨g, 3, none⟩ = some (.int .i64 R.digits) := hr.cell 3; have hf1 := hr.fr 1; have hf3 := hr.fr 3; replace hk := Aside0.mk ((KW.of_below HD.out.2.below : KW F W _).trans (hk.mono (fun k _ hf => Or.inl hf))); replace hr := Aside0.mk hr))
            go_ret2
            exact ⟨_, _, _, _, rfl, ⟨rfl, rfl⟩, (hr.out.grow (fun k hk => .inl hk)).nocl, hk.out⟩
          · have e5 : ((c.toNat : Int) == 13) = false := beq_eq_false_iff_ne.2 h5
            rw [if_neg h5]
            clear h5
            go_enter Tryd.func18, Tryd.ntmps18
            go_wp2_with (first | (go_at_call 23; (with_reducible refine (body_value.calls 5 (c.toNat : Int) v W HV.out).mono ?_); rintro e w0 ⟨rfl, hd⟩; have HD := Aside0.mk (hd_ hd)) | (go_at_call 24; (with_reducible refine (HC.out _ HD.out.2.below HD.out.1).mono ?_); rintro e w1 ⟨rfl, hr, hk⟩; have hc1 : w1.cell? ⟨g, 1, none⟩ = some (.int .i64 R.left) := hr.cell 1; have hc3 : w1.cell? ⟨g, 3, none⟩ = some (.int .i64 R.digits) := hr.cell 3; have hf1 := hr.fr 1; have hf3 := hr.fr 3; replace hk := Aside0.mk ((KW.of_below HD.out.2.below : KW F W _).trans (hk.mono (fun k _ hf => Or.inl hf))); replace hr := Aside0.mk hr))
            go_ret2
            exact ⟨_, _, _, _, rfl, ⟨rfl, rfl⟩, (hr.out.grow (fun k hk => .inl hk)).nocl, hk.out⟩
end Go.Proofs.YtllcfifeaacmiaaDoor.Pr
namespace Go.Proofs.YtllcfifeaacmiaaDoor.Pr
open Go.RowKit Go.Proofs.YtllcfifeaacmiaaDoorW.PrintWords Go.Proofs.YtllcfifeaacmiaaDoorW.PrintLast Go.Proofs.YtllcfifeaacmiaaDoorW.PrintMore
set_option linter.unusedVariables false
set_option linter.unusedSimpArgs false

/-! ### slices.Index at bytes; New, Total -/
def idxL (d : UInt8) : List UInt8 → Int → Int
  | [], _ => -1
  | c :: l, i => if c = d then i else idxL d l (i + 1)
theorem rd_ints (t : List UInt8) (i : Nat) (hi : i < t.length) : rd (ints t) (i : Int) = (t[i].toNat : Int) := by
  unfold rd ints
  rw [Int.toNat_natCast, List.getD_eq_getElem?_getD, List.getElem?_map, List.getElem?_eq_getElem hi]
  rfl
set_option maxHeartbeats 1000000 in
theorem index_any (t : List UInt8) (d : UInt8) (A : Option Addr) (n : Nat) (W : World) (hC : Kd.C (Kd.int .u8) W A (ints t).length (ints t)) (hl : t.length ≤ 1000000000) :
    Calls Tryd.prog 47 #[.slice A (ints t).length n, .int .u8 (d.toNat : Int)] W fun e W' => e = .returned (.int .i64 (idxL d t 0)) ∧ W' = W := by
  have HC := Aside0.mk hC
  have hlen : (ints t).length = t.length := ints_length t
  rw [hlen] at HC ⊢
  clear hC
  go_enter Tryd.func47, Tryd.ntmps47
  go_wp2_with fail
  go_loopw [8] (fun v8 wi => wi = W ∧ ∃ i : Nat, v8 = .int .i64 (i : Int) ∧ i ≤ t.length ∧ Aside0 (idxL d (t.drop i) (i : Int) = idxL d t 0)) (fun v8 _ => t.length - (intOf v8).toNat)
  case atStart => exact ⟨rfl, 0, rfl, Nat.zero_le _, ⟨rfl⟩⟩
  case round =>
    obtain ⟨rfl, i, rfl, hi, HI⟩ := hrel
    by_cases hlt : i < t.length
    · obtain ⟨ad, e, hx⟩ := Kd.at_int HC.out (i : Int) (by omega) (by omega)
      subst e
      rw [rd_ints t i hlt, Int.toNat_natCast] at hx
      have HD := HI.out
      rw [List.drop_eq_getElem_cons hlt] at HD
      have hwr : IntKind.i64.wrap ((i : Int) + 1) = (i : Int) + 1 := by rw [i64_w, IntWalk.wrap64_in _ (by omega)]
      by_cases hc : t[i] = d
      · have e1 : ((d.toNat : Int) == (t[i].toNat : Int)) = true := by rw [hc]; simp
        have HE : Aside0 (idxL d t 0 = (i : Int)) := ⟨by rw [← HD]; unfold idxL; rw [if_pos hc]⟩
        generalize t[i] = c at hx e1
        clear hc HD HI
        go_wp2_with fail
        go_ret
        exact ⟨by rw [HE.out]; rfl, rfl⟩
      · have e1 : ((d.toNat : Int) == (t[i].toNat : Int)) = false := beq_eq_false_iff_ne.2 (fun e => hc (UInt8.toNat_inj.1 (Int.ofNat.inj e)).symm)
        have HE : Aside0 (idxL d (t.drop (i + 1)) ((i + 1 : Nat) : Int) = idxL d t 0) := ⟨by
          rw [← HD]
          conv => rhs; unfold idxL; rw [if_neg hc]
          rfl⟩
        generalize t[i] = c at hx e1
        clear hc HD HI
        go_wp2_with fail
        exact ⟨⟨by trivial, i + 1, by go_num, by omega, HE⟩, by simp [intOf]; omega⟩
    · have HE : Aside0 (idxL d t 0 = -1) := ⟨by rw [← HI.out, List.drop_eq_nil_of_le (by omega)]; rfl⟩
      go_wp2_with fail
      go_ret
      exact ⟨by rw [HE.out]; rfl, rfl⟩
end Go.Proofs.YtllcfifeaacmiaaDoor.Pr
