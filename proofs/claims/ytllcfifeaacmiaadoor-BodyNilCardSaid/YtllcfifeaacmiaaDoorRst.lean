import Derived.Test.YtllcfifeaacmiaaDoorRtr
namespace Go.Proofs.YtllcfifeaacmiaaDoor.Pr
open Go.RowKit Go.Proofs.YtllcfifeaacmiaaDoorW.PrintWords Go.Proofs.YtllcfifeaacmiaaDoorW.PrintLast Go.Proofs.YtllcfifeaacmiaaDoorW.PrintMore
set_option linter.unusedVariables false
set_option linter.unusedSimpArgs false

/-! ### Any state's step -/
def stepR (R : Rm) (c : UInt8) : Stt × Int × Rm :=
  match R.st with
  | .none => (.none, 0, R)
  | .digit => stepD R c (valI c)
  | .plain => (if (keptR R c).left = 0 then .none else .plain, 0, keptR R c)
  | .extra => ((stepX R c).1, (stepX R c).2, cntR R)
  | .sized => stepZ R c
  | .chunk => (if (keptR R c).left = 0 then .m13 else .chunk, 0, keptR R c)
  | .m13 => (if c = 13 then .m10 else .none, if c = 13 then 0 else 200, R)
  | .m10 => (if c = 10 then .digit else .none, if c = 10 then 0 else 200, R)
  | .trailer => stepT R c
abbrev CF (K : Nat) : Prop := ∀ (xs : Array Value) (W : World), (callFunc K xs).run Tryd.prog W = .ok (.enter K xs) W
theorem callFunc_enter {f : FuncId} {fn : Func} {c : Code} (hf : Tryd.prog.funcs[f]? = some fn) (hname : (fn.name == "runtime.NumGoroutine") = false) (hb : fn.body = some c) (xs : Array Value) (w : World) :
    (callFunc f xs).run Tryd.prog w = .ok (.enter f xs) w := by
  have h1 : fn.name ≠ "runtime.NumGoroutine" := by simpa using hname
  simp [callFunc, hf, h1, hb]
theorem cf_digit : CF 18 := fun xs W => callFunc_enter Tryd.func18 (by kernel_rfl) rfl xs W
theorem cf_plain : CF 19 := fun xs W => callFunc_enter Tryd.func19 (by kernel_rfl) rfl xs W
theorem cf_extra : CF 25 := fun xs W => callFunc_enter Tryd.func25 (by kernel_rfl) rfl xs W
theorem cf_sized : CF 26 := fun xs W => callFunc_enter Tryd.func26 (by kernel_rfl) rfl xs W
theorem cf_chunk : CF 36 := fun xs W => callFunc_enter Tryd.func36 (by kernel_rfl) rfl xs W
theorem cf_trailer : CF 35 := fun xs W => callFunc_enter Tryd.func35 (by kernel_rfl) rfl xs W
theorem cf_must : CF 56 := fun xs W => callFunc_enter Tryd.func56 (by kernel_rfl) rfl xs W
theorem step_any (F : Nat → Prop) (B g : Nat) (W : World) (R : Rm) (vs vt vd : Value) (cl : List Nat) (c : UInt8) (h : RdC F B g W R vs vt vd cl) (hs : StV W vs cl R.st) (hn : R.st ≠ .none) (hl : R.data.length ≤ 1000000000000) (hl2 : R.text.length ≤ 1000000) :
    ∃ K caps, vs = .func (.func K) #[] caps ∧ CF K ∧ Calls Tryd.prog K (#[.pointer (some ⟨g, 0, none⟩), .int .u8 (c.toNat : Int)] ++ caps) W (StepP F B g W vs (stepR R c).1 (stepR R c).2.1 (stepR R c).2.2) := by
  unfold stepR
  cases hst : R.st with
  | none => exact absurd hst hn
  | digit =>
    rw [hst] at hs
    obtain ⟨rfl, rfl⟩ := hs
    exact ⟨_, _, rfl, cf_digit, digit_any F B g W R _ vt vd [] c h⟩
  | plain =>
    rw [hst] at hs
    obtain ⟨rfl, rfl⟩ := hs
    exact ⟨_, _, rfl, cf_plain, plain_any F B g W R _ vt vd [] c h hl⟩
  | extra =>
    rw [hst] at hs
    obtain ⟨rfl, rfl⟩ := hs
    exact ⟨_, _, rfl, cf_extra, extra_any F B g W R _ vt vd [] c h⟩
  | sized =>
    rw [hst] at hs
    obtain ⟨rfl, rfl⟩ := hs
    exact ⟨_, _, rfl, cf_sized, sized_any F B g W R _ vt vd [] c h⟩
  | chunk =>
    rw [hst] at hs
    obtain ⟨rfl, rfl⟩ := hs
    exact ⟨_, _, rfl, cf_chunk, chunk_any F B g W R _ vt vd [] c h hl⟩
  | trailer =>
    rw [hst] at hs
    obtain ⟨rfl, rfl⟩ := hs
    exact ⟨_, _, rfl, cf_trailer, trailer_any F B g W R _ vt vd [] c h hl2⟩
  | m10 =>
    rw [hst] at hs
    obtain ⟨p, q, rfl, rfl, hp, hq⟩ := hs
    exact ⟨_, _, rfl, cf_must, must1_any F B g W R _ vt vd [p, q] c 10 p q _ _ .digit [] h hp hq ⟨rfl, rfl⟩ (fun k hk => (List.not_mem_nil hk).elim)⟩
  | m13 =>
    rw [hst] at hs
    obtain ⟨p, q, p', q', rfl, rfl, hp, hq, hp', hq'⟩ := hs
    exact ⟨_, _, rfl, cf_must, must1_any F B g W R _ vt vd [p, q, p', q'] c 13 p q _ _ .m10 [p', q'] h hp hq ⟨p', q', rfl, rfl, hp', hq'⟩ (fun k hk => by simp at hk; rcases hk with rfl | rfl <;> simp)⟩
/-! ### The model of Feed -/
def isNone : Stt → Bool
  | .none => true
  | _ => false
theorem isNone_iff (s : Stt) : isNone s = true ↔ s = .none := by cases s <;> simp [isNone]
def nextR (R : Rm) (c : UInt8) : Rm := { (stepR R c).2.2 with st := (stepR R c).1, fault := (stepR R c).2.1 }
def feedL : Rm → List UInt8 → Rm × Nat
  | R, [] => (R, 0)
  | R, c :: s => if isNone R.st = false ∧ R.fault = 0 then ((feedL (nextR R c) s).1, (feedL (nextR R c) s).2 + 1) else (R, 0)
theorem stepR_sizes (R : Rm) (c : UInt8) : (stepR R c).2.2.data.length ≤ R.data.length + 1 ∧ (stepR R c).2.2.text.length ≤ R.text.length + 1 ∧ (stepR R c).2.2.made = R.made := by
  unfold stepR
  cases R.st with
  | none => exact ⟨Nat.le_succ _, Nat.le_succ _, rfl⟩
  | digit => simp only; unfold stepD digR cntR; split <;> (try split) <;> (try split) <;> (try split) <;> (try split) <;> exact ⟨Nat.le_succ _, Nat.le_succ _, rfl⟩
  | plain => exact ⟨by simp [keptR], Nat.le_succ _, rfl⟩
  | extra => exact ⟨Nat.le_succ _, Nat.le_succ _, rfl⟩
  | sized => simp only; unfold stepZ sizR cntR; split <;> (try split) <;> (try split) <;> (try split) <;> exact ⟨Nat.le_succ _, Nat.le_succ _, rfl⟩
  | chunk => exact ⟨by simp [keptR], Nat.le_succ _, rfl⟩
  | m13 => exact ⟨Nat.le_succ _, Nat.le_succ _, rfl⟩
  | m10 => exact ⟨Nat.le_succ _, Nat.le_succ _, rfl⟩
  | trailer => simp only; unfold stepT txtR endR; repeat' split
               all_goals exact ⟨Nat.le_succ _, by simp, rfl⟩
end Go.Proofs.YtllcfifeaacmiaaDoor.Pr
