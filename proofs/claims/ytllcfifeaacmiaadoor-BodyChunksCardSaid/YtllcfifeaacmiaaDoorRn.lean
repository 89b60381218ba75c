import Derived.Test.YtllcfifeaacmiaaDoorRk
namespace Go.Proofs.YtllcfifeaacmiaaDoor.Pr
open Go.RowKit Go.Proofs.YtllcfifeaacmiaaDoorW.PrintWords Go.Proofs.YtllcfifeaacmiaaDoorW.PrintLast Go.Proofs.YtllcfifeaacmiaaDoorW.PrintMore
set_option linter.unusedVariables false
set_option linter.unusedSimpArgs false

/-! ### counts, must's function, extra -/
def cntR (R : Rm) : Rm := { R with line := wrap64 (R.line + 1) }
def cntOk (R : Rm) (c : UInt8) : Bool := (c.toNat : Int) == 10 || decide (wrap64 (R.line + 1) ≤ 4097)
theorem counts_any (F : Nat → Prop) (B g : Nat) (W : World) (R : Rm) (vs vt vd : Value) (cl : List Nat) (c : UInt8) (h : RdC F B g W R vs vt vd cl) :
    Calls Tryd.prog 24 #[.pointer (some ⟨g, 0, none⟩), .int .u8 (c.toNat : Int)] W fun e W' => e = .returned (.bool (cntOk R c)) ∧ RdC F B g W' (cntR R) vs vt vd cl ∧ KW F W W' := by
  have H := Aside0.mk h
  have hc4 : W.cell? ⟨g, 4, none⟩ = some (.int .i64 R.line) := h.cell 4
  have hf4 := h.fr 4
  unfold cntR cntOk
  obtain ⟨l1, hl1⟩ : ∃ l1, wrap64 (R.line + 1) = l1 := ⟨_, rfl⟩
  have hw : IntKind.i64.wrap (R.line + 1) = l1 := (i64_w _).trans hl1
  rw [hl1]
  clear h hl1
  obtain ⟨W1, hW1⟩ : ∃ W1, W.setCell ⟨g, 4, none⟩ (.int .i64 l1) = W1 := ⟨_, rfl⟩
  have HR : Aside0 (RdC F B g W1 { R with line := l1 } vs vt vd cl) := ⟨by rw [← hW1]; exact RdC.put H.out 4 (.int .i64 l1) rfl rfl rfl⟩
  have HK : Aside0 (KW F W W1) := ⟨by rw [← hW1]; exact (KW.refl F W).set g 4 (.int .i64 l1) H.out.gf⟩
  have hd4 : W1.cell? ⟨g, 4, none⟩ = some (.int .i64 l1) := HR.out.cell 4
  by_cases h1 : (c.toNat : Int) = 10
  · have e1 : ((c.toNat : Int) == 10) = true := beq_iff_eq.2 h1
    rw [e1, Bool.true_or]
    clear h1
    go_enter Tryd.func24, Tryd.ntmps24
    go_upto_region 2 with fail
    try rw [hW1]
    clear hW1 hc4 hf4
    go_wp2_with fail
    go_ret
    exact ⟨rfl, HR.out, HK.out⟩
  · have e1 : ((c.toNat : Int) == 10) = false := beq_eq_false_iff_ne.2 h1
    rw [e1, Bool.false_or]
    clear h1
    go_enter Tryd.func24, Tryd.ntmps24
    go_upto_region 2 with fail
    try rw [hW1]
    clear hW1 hc4 hf4
    go_wp2_with fail
    go_ret
    exact ⟨rfl, HR.out, HK.out⟩
/-- must's function: the byte that must stand there. -/
theorem must1_any (F : Nat → Prop) (B g : Nat) (W : World) (R : Rm) (vs vt vd : Value) (cl : List Nat) (c d : UInt8) (p q : Nat) (f : FuncId) (xs : Array Value) (s : Stt) (cl' : List Nat) (h : RdC F B g W R vs vt vd cl)
    (hp : W.cell? ⟨p, 0, none⟩ = some (.int .u8 (d.toNat : Int))) (hq : W.cell? ⟨q, 0, none⟩ = some (.func (.func f) #[] xs)) (hs : StV W (.func (.func f) #[] xs) cl' s) (hcl : ∀ k ∈ cl', k ∈ cl) :
    Calls Tryd.prog 56 #[.pointer (some ⟨g, 0, none⟩), .int .u8 (c.toNat : Int), .pointer (some ⟨p, 0, none⟩), .pointer (some ⟨q, 0, none⟩)] W (StepP F B g W vs (if c = d then s else .none) (if c = d then 0 else 200) R) := by
  have H := Aside0.mk h
  have HS := Aside0.mk hs
  have HC := Aside0.mk hcl
  unfold StepP
  clear h hs hcl
  by_cases h0 : c = d
  · have e1 : ((c.toNat : Int) != (d.toNat : Int)) = false := by rw [h0]; simp
    have e2 : ((c.toNat : Int) == (d.toNat : Int)) = true := by rw [h0]; simp
    rw [if_pos h0, if_pos h0]
    clear h0
    go_enter Tryd.func56, Tryd.ntmps56
    go_wp2_with fail
    go_ret2
    exact ⟨_, vt, vd, cl', rfl, HS.out, ⟨H.out.blk, .inl H.out.gf, H.out.bg, fun k hk => ⟨.inl (H.out.clf k (HC.out k hk)).1, (H.out.clf k (HC.out k hk)).2⟩, Kd.R_mono H.out.t (fun k hk => ⟨.inl hk.1, hk.2.1, fun e => hk.2.2 (HC.out k e)⟩), Kd.R_mono H.out.d (fun k hk => ⟨.inl hk.1, hk.2.1, fun e => hk.2.2.1 (HC.out k e), hk.2.2.2⟩)⟩, KW.refl _ _⟩
  · have h1 : ¬ (c.toNat : Int) = (d.toNat : Int) := fun e => h0 (UInt8.toNat_inj.1 (Int.ofNat.inj e))
    have e1 : ((c.toNat : Int) != (d.toNat : Int)) = true := bne_iff_ne.2 h1
    have e2 : ((c.toNat : Int) == (d.toNat : Int)) = false := beq_eq_false_iff_ne.2 h1
    rw [if_neg h0, if_neg h0]
    clear h0 h1
    go_enter Tryd.func56, Tryd.ntmps56
    go_wp2_with fail
    go_ret2
    exact ⟨_, vt, vd, [], rfl, ⟨rfl, rfl⟩, (H.out.grow (fun k hk => .inl hk)).nocl, KW.refl _ _⟩
end Go.Proofs.YtllcfifeaacmiaaDoor.Pr
