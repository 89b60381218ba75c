import Derived.Test.YtllcfifeaacmiaaDoorRtr
import Derived.Deep.RegionWith
import Derived.Laws.EntriesVeiled
namespace Go.Proofs.YtllcfifeaacmiaaDoor.Pr
open Go.RowKit Go.Proofs.YtllcfifeaacmiaaDoorW.PrintWords Go.Proofs.YtllcfifeaacmiaaDoorW.PrintLast Go.Proofs.YtllcfifeaacmiaaDoorW.PrintMore
set_option linter.unusedVariables false
set_option linter.unusedSimpArgs false

/-! ### Any state's step -/
def stepR (R : Rm) (c : UInt8) : Stt × Int × Rm :=
  match R.st with
  | .none => (.none, 0, R)
  | .digit => stepD R c (valI c)
  | .plain => (if (keptR R c).left = 0 then .none else .plain, 0, keptR R c)
  | .extra => ((stepX R c).1, (stepX R c).2, cntR R)
  | .sized => stepZ R c
  | .chunk => (if (keptR R c).left = 0 then .m13 else .chunk, 0, keptR R c)
  | .m13 => (if c = 13 then .m10 else .none, if c = 13 then 0 else 200, R)
  | .m10 => (if c = 10 then .digit else .none, if c = 10 then 0 else 200, R)
  | .trailer => stepT R c
abbrev CF (K : Nat) : Prop := ∀ (xs : Array Value) (W : World), (callFunc K xs).run Tryd.prog W = .ok (.enter K xs) W
theorem callFunc_enter {f : FuncId} {fn : Func} {c : Code} (hf : Tryd.prog.funcs[f]? = some fn) (hname : (fn.name == "runtime.NumGoroutine") = false) (hb : fn.body = some c) (xs : Array Value) (w : World) :
    (callFunc f xs).run Tryd.prog w = .ok (.enter f xs) w := by
  have h1 : fn.name ≠ "runtime.NumGoroutine" := by simpa using hname
  simp [callFunc, hf, h1, hb]
theorem cf_digit : CF 18 := fun xs W => callFunc_enter Tryd.func18 (by kernel_rfl) rfl xs W
theorem cf_plain : CF 19 := fun xs W => callFunc_enter Tryd.func19 (by kernel_rfl) rfl xs W
theorem cf_extra : CF 25 := fun xs W => callFunc_enter Tryd.func25 (by kernel_rfl) rfl xs W
theorem cf_sized : CF 26 := fun xs W => callFunc_enter Tryd.func26 (by kernel_rfl) rfl xs W
theorem cf_chunk : CF 36 := fun xs W => callFunc_enter Tryd.func36 (by kernel_rfl) rfl xs W
theorem cf_trailer : CF 35 := fun xs W => callFunc_enter Tryd.func35 (by kernel_rfl) rfl xs W
theorem cf_must : CF 56 := fun xs W => callFunc_enter Tryd.func56 (by kernel_rfl) rfl xs W
theorem step_any (F : Nat → Prop) (B g : Nat) (W : World) (R : Rm) (vs vt vd : Value) (cl : List Nat) (c : UInt8) (h : RdC F B g W R vs vt vd cl) (hs : StV W vs cl R.st) (hn : R.st ≠ .none) (hl : R.data.length ≤ 1000000000000) (hl2 : R.text.length ≤ 1000000) :
    ∃ K caps, vs = .func (.func K) #[] caps ∧ CF K ∧ Calls Tryd.prog K (#[.pointer (some ⟨g, 0, none⟩), .int .u8 (c.toNat : Int)] ++ caps) W (StepP F B g W vs (stepR R c).1 (stepR R c).2.1 (stepR R c).2.2) := by
  unfold stepR
  cases hst : R.st with
  | none => exact absurd hst hn
  | digit =>
    rw [hst] at hs
    obtain ⟨rfl, rfl⟩ := hs
    exact ⟨_, _, rfl, cf_digit, digit_any F B g W R _ vt vd [] c h⟩
  | plain =>
    rw [hst] at hs
    obtain ⟨rfl, rfl⟩ := hs
    exact ⟨_, _, rfl, cf_plain, plain_any F B g W R _ vt vd [] c h hl⟩
  | extra =>
    rw [hst] at hs
    obtain ⟨rfl, rfl⟩ := hs
    exact ⟨_, _, rfl, cf_extra, extra_any F B g W R _ vt vd [] c h⟩
  | sized =>
    rw [hst] at hs
    obtain ⟨rfl, rfl⟩ := hs
    exact ⟨_, _, rfl, cf_sized, sized_any F B g W R _ vt vd [] c h⟩
  | chunk =>
    rw [hst] at hs
    obtain ⟨rfl, rfl⟩ := hs
    exact ⟨_, _, rfl, cf_chunk, chunk_any F B g W R _ vt vd [] c h hl⟩
  | trailer =>
    rw [hst] at hs
    obtain ⟨rfl, rfl⟩ := hs
    exact ⟨_, _, rfl, cf_trailer, trailer_any F B g W R _ vt vd [] c h hl2⟩
  | m10 =>
    rw [hst] at hs
    obtain ⟨p, q, rfl, rfl, hp, hq⟩ := hs
    exact ⟨_, _, rfl, cf_must, must1_any F B g W R _ vt vd [p, q] c 10 p q _ _ .digit [] h hp hq ⟨rfl, rfl⟩ (fun k hk => (List.not_mem_nil hk).elim)⟩
  | m13 =>
    rw [hst] at hs
    obtain ⟨p, q, p', q', rfl, rfl, hp, hq, hp', hq'⟩ := hs
    exact ⟨_, _, rfl, cf_must, must1_any F B g W R _ vt vd [p, q, p', q'] c 13 p q _ _ .m10 [p', q'] h hp hq ⟨p', q', rfl, rfl, hp', hq'⟩ (fun k hk => by simp at hk; rcases hk with rfl | rfl <;> simp)⟩
/-! ### The model of Feed -/
def isNone : Stt → Bool
  | .none => true
  | _ => false
theorem isNone_iff (s : Stt) : isNone s = true ↔ s = .none := by cases s <;> simp [isNone]
def nextR (R : Rm) (c : UInt8) : Rm := { (stepR R c).2.2 with st := (stepR R c).1, fault := (stepR R c).2.1 }
def feedL : Rm → List UInt8 → Rm × Nat
  | R, [] => (R, 0)
  | R, c :: s => if isNone R.st = false ∧ R.fault = 0 then ((feedL (nextR R c) s).1, (feedL (nextR R c) s).2 + 1) else (R, 0)
theorem stepR_sizes (R : Rm) (c : UInt8) : (stepR R c).2.2.data.length ≤ R.data.length + 1 ∧ (stepR R c).2.2.text.length ≤ R.text.length + 1 ∧ (stepR R c).2.2.made = R.made := by
  unfold stepR
  cases R.st with
  | none => exact ⟨Nat.le_succ _, Nat.le_succ _, rfl⟩
  | digit => simp only; unfold stepD digR cntR; split <;> (try split) <;> (try split) <;> (try split) <;> (try split) <;> exact ⟨Nat.le_succ _, Nat.le_succ _, rfl⟩
  | plain => exact ⟨by simp [keptR], Nat.le_succ _, rfl⟩
  | extra => exact ⟨Nat.le_succ _, Nat.le_succ _, rfl⟩
  | sized => simp only; unfold stepZ sizR cntR; split <;> (try split) <;> (try split) <;> (try split) <;> exact ⟨Nat.le_succ _, Nat.le_succ _, rfl⟩
  | chunk => exact ⟨by simp [keptR], Nat.le_succ _, rfl⟩
  | m13 => exact ⟨Nat.le_succ _, Nat.le_succ _, rfl⟩
  | m10 => exact ⟨Nat.le_succ _, Nat.le_succ _, rfl⟩
  | trailer => simp only; unfold stepT txtR endR; repeat' split
               all_goals exact ⟨Nat.le_succ _, by simp, rfl⟩
end Go.Proofs.YtllcfifeaacmiaaDoor.Pr
namespace Go.Proofs.YtllcfifeaacmiaaDoor.Pr
open Go.RowKit Go.Proofs.YtllcfifeaacmiaaDoorW.PrintWords Go.Proofs.YtllcfifeaacmiaaDoorW.PrintLast Go.Proofs.YtllcfifeaacmiaaDoorW.PrintMore
set_option linter.unusedVariables false
set_option linter.unusedSimpArgs false

/-! ### Feed -/
theorem KW.into {F : Nat → Prop} {W W1 W2 : World} (h : KW F W W1) (k : KW (Fnew F W) W1 W2) : KW F W W2 := h.trans k
/-- What a loop of Feed keeps. -/
structure LpC (F : Nat → Prop) (B g : Nat) (W : World) (R0 : Rm) (s : List UInt8) (i : Nat) (wi : World) (R : Rm) (vs vt vd : Value) (cl : List Nat) : Prop where
  rd : RdC (Fnew F W) B g wi R vs vt vd cl
  st : StV wi vs cl R.st
  kw : KW F W wi
  run : feedL R0 s = ((feedL R (s.drop i)).1, (feedL R (s.drop i)).2 + i)
  dl : R.data.length ≤ i
  tl : R.text.length ≤ R0.text.length + i
  gf : F g
def overR (R : Rm) : Rm := { R with over := isNone R.st && decide (R.fault = 0) }
def FeedP (F : Nat → Prop) (B g : Nat) (W : World) (R : Rm) (n : Nat) (e : Ending) (W' : World) : Prop :=
  e = .returned (.tuple #[.int .i64 (n : Int), .string (mkB R.data), .bool R.over, .int .i64 R.fault]) ∧ ∃ vs vt vd cl, RdC (Fnew F W) B g W' R vs vt vd cl ∧ StV W' vs cl R.st ∧ KW F W W'
theorem StV.func {W : World} {v : Value} {cl : List Nat} {s : Stt} (h : StV W v cl s) (hn : isNone s = false) : ∃ K caps, v = .func (.func K) #[] caps := by
  cases s with
  | none => cases hn
  | digit => exact ⟨_, _, h.1⟩
  | plain => exact ⟨_, _, h.1⟩
  | extra => exact ⟨_, _, h.1⟩
  | sized => exact ⟨_, _, h.1⟩
  | chunk => exact ⟨_, _, h.1⟩
  | trailer => exact ⟨_, _, h.1⟩
  | m10 => obtain ⟨p, q, h, _⟩ := h; exact ⟨_, _, h⟩
  | m13 => obtain ⟨p, q, p', q', h, _⟩ := h; exact ⟨_, _, h⟩
theorem StV.nil {W : World} {v : Value} {cl : List Nat} {s : Stt} (h : StV W v cl s) (hn : isNone s = true) : v = .nilFunc := by
  rw [(isNone_iff s).1 hn] at h
  exact h.1
theorem feedL_step {R : Rm} {c : UInt8} {s : List UInt8} (h1 : isNone R.st = false) (h2 : R.fault = 0) : feedL R (c :: s) = ((feedL (nextR R c) s).1, (feedL (nextR R c) s).2 + 1) := by
  conv => lhs; unfold feedL
  rw [if_pos ⟨h1, h2⟩]
theorem feedL_halt {R : Rm} {s : List UInt8} (h : isNone R.st = true ∨ R.fault ≠ 0) : feedL R s = (R, 0) := by
  cases s with
  | nil => rfl
  | cons c s =>
    unfold feedL
    rw [if_neg]
    rintro ⟨h1, h2⟩
    rcases h with h | h
    · rw [h] at h1; cases h1
    · exact h h2
theorem LpC.step {F : Nat → Prop} {B g : Nat} {W wi w' : World} {R0 R : Rm} {s : List UInt8} {i : Nat} {vs vt vd v' vt' vd' : Value} {cl cl' : List Nat} {c : UInt8} (h : LpC F B g W R0 s i wi R vs vt vd cl) (h1 : isNone R.st = false) (h2 : R.fault = 0) (hx : s[i]? = some c)
    (hs : StV w' v' cl' (stepR R c).1) (hr : RdC (Fnew (Fnew F W) wi) B g w' (stepR R c).2.2 vs vt' vd' cl') (hk : KW (Fnew F W) wi w') : LpC F B g W R0 s (i + 1) ((w'.setCell ⟨g, 0, none⟩ v').setCell ⟨g, 9, none⟩ (.int .i64 (stepR R c).2.1)) (nextR R c) v' vt' vd' cl' := by
  have hr' : RdC (Fnew F W) B g w' (stepR R c).2.2 vs vt' vd' cl' := hr.grow (fun k hk' => by
    have := h.kw.size
    rcases hk' with hk' | hk'
    · exact hk'
    · exact .inr (by omega))
  have hgf : Fnew F W g := h.rd.gf
  have hr1 := RdC.put (R' := { (stepR R c).2.2 with st := (stepR R c).1 }) (vs' := v') hr' 0 v' rfl rfl rfl
  have hr2 := RdC.put (R' := nextR R c) (vs' := v') hr1 9 (.int .i64 (stepR R c).2.1) rfl rfl rfl
  have hd : s.drop i = c :: s.drop (i + 1) := by
    obtain ⟨hl, e⟩ := List.getElem?_eq_some_iff.1 hx
    rw [List.drop_eq_getElem_cons hl, e]
  have hcl : ∀ k ∈ cl', k ≠ g := fun k hk' => (hr.clf k hk').2.1
  refine ⟨hr2, ?_, ((h.kw.into hk).set g 0 v' h.gf).set g 9 _ h.gf, ?_, ?_, ?_, h.gf⟩
  · refine StV.keep (F := F) (W := w') hs (fun k hk' => ?_)
    rw [Below.heap_setCell _ ⟨g, 9, none⟩ _ k (hcl k hk'), Below.heap_setCell _ ⟨g, 0, none⟩ _ k (hcl k hk')]
  · rw [h.run, hd, feedL_step h1 h2]
    simp only [Prod.mk.injEq, true_and]
    omega
  · have := (stepR_sizes R c).1
    have := h.dl
    show (stepR R c).2.2.data.length ≤ _
    omega
  · have := (stepR_sizes R c).2.1
    have := h.tl
    show (stepR R c).2.2.text.length ≤ _
    omega
theorem LpC.drew {F : Nat → Prop} {B g : Nat} {W wi : World} {R0 R : Rm} {s : List UInt8} {i : Nat} {vs vt vd : Value} {cl : List Nat} (h : LpC F B g W R0 s i wi R vs vt vd cl) : LpC F B g W R0 s i wi.drew R vs vt vd cl :=
  ⟨h.rd.drew, StV.keep (F := F) h.st (fun _ _ => rfl), h.kw.drew, h.run, h.dl, h.tl, h.gf⟩
theorem LpC.fin {F : Nat → Prop} {B g : Nat} {W wi : World} {R0 R : Rm} {s : List UInt8} {i : Nat} {vs vt vd : Value} {cl : List Nat} (h : LpC F B g W R0 s i wi R vs vt vd cl) (hx : s.length ≤ i ∨ isNone R.st = true ∨ R.fault ≠ 0) : feedL R0 s = (R, i) := by
  rw [h.run]
  have e : feedL R (s.drop i) = (R, 0) := by
    rcases hx with hx | hx
    · rw [List.drop_eq_nil_of_le hx]; rfl
    · exact feedL_halt hx
  rw [e]
  simp
set_option maxHeartbeats 4000000 in
theorem neq_func (K : Nat) (caps : Array Value) (W : World) : (binOp .neq 44 (.func (.func K) #[] caps) .nilFunc).run Tryd.prog W = .ok (.bool true) W := by kernel_rfl
theorem neq_nil (W : World) : (binOp .neq 44 .nilFunc .nilFunc).run Tryd.prog W = .ok (.bool false) W := by kernel_rfl
theorem eql_func (K : Nat) (caps : Array Value) (W : World) : (binOp .eql 44 (.func (.func K) #[] caps) .nilFunc).run Tryd.prog W = .ok (.bool false) W := by kernel_rfl
theorem eql_nil (W : World) : (binOp .eql 44 .nilFunc .nilFunc).run Tryd.prog W = .ok (.bool true) W := by kernel_rfl
theorem data_conv {F : Nat → Prop} {B g : Nat} {W : World} {R : Rm} {vs vt : Value} {A : Option Addr} {n c : Nat} {cl : List Nat} (h : RdC F B g W R vs vt (.slice A n c) cl) : (convert 45 9 (.slice A n c)).run Tryd.prog W = .ok (.string (mkB R.data)) W := by
  obtain ⟨A', c', e', hle, hC⟩ := Kd.R_reads h.d
  obtain ⟨q1, q2, q3⟩ := Value.slice.inj e'
  rw [q1, q2, q3]
  have hs := Kd.C_string (P := Tryd.prog) (c := c') (src := 45) (dst := 9) (e := 5) Tryd.underlying45 Tryd.underlying5 Tryd.underlying9 hC
  rw [strOf_ints] at hs
  exact hs
theorem results_tmp4 {P : Program} {fn : Func} {a b c d : Tmp} (h : fn.results = #[.tmp a, .tmp b, .tmp c, .tmp d]) (tmps : Array Value) (w : World) :
    (results fn tmps).run P w = .ok (.tuple #[tmps.getD a undef, tmps.getD b undef, tmps.getD c undef, tmps.getD d undef]) w := by
  simp [results, h]
set_option maxRecDepth 100000 in
set_option maxHeartbeats 4000000 in
theorem feed_any (F : Nat → Prop) (B g : Nat) (W : World) (R : Rm) (vs vt vd : Value) (cl : List Nat) (s : ByteArray) (h : RdC F B g W R vs vt vd cl) (hst : StV W vs cl R.st) (hm : R.made = true) (hf : R.fault = 0) (ho : R.over = false) (hl : R.text.length + s.size ≤ 1000000) :
    Calls Tryd.prog 13 #[.pointer (some ⟨g, 0, none⟩), .string s] W (FeedP F B g W (overR (feedL { R with data := [] } s.data.toList).1) (feedL { R with data := [] } s.data.toList).2) := by
  have H0 := Aside0.mk h
  have HS := Aside0.mk hst
  have HL := Aside0.mk hl
  have hsz : s.size ≤ 1000000 := by omega
  have hc11 : W.cell? ⟨g, 11, none⟩ = some (.bool true) := (h.cell 11).trans (by unfold cellsR; rw [hm]; rfl)
  have hc9 : W.cell? ⟨g, 9, none⟩ = some (.int .i64 0) := (h.cell 9).trans (by unfold cellsR; rw [hf]; rfl)
  have hc10 : W.cell? ⟨g, 10, none⟩ = some (.bool false) := (h.cell 10).trans (by unfold cellsR; rw [ho]; rfl)
  obtain ⟨Ad, cd, rfl⟩ := Kd.R_slice h.d
  have hc7 : W.cell? ⟨g, 7, none⟩ = some (.slice Ad (ints R.data).length cd) := h.cell 7
  have hf7 := h.fr 7
  have HP : Aside0 (∀ R1 n, feedL { R with data := [] } s.data.toList = (R1, n) → FeedP F B g W (overR (feedL { R with data := [] } s.data.toList).1) (feedL { R with data := [] } s.data.toList).2 = FeedP F B g W (overR R1) n) := ⟨fun R1 n e => by rw [e]⟩
  obtain ⟨Q, hQ⟩ : ∃ Q, FeedP F B g W (overR (feedL { R with data := [] } s.data.toList).1) (feedL { R with data := [] } s.data.toList).2 = Q := ⟨_, rfl⟩
  rw [hQ] at HP ⊢
  clear hQ h hst hl hm hf ho
  have HR1 := Aside0.mk (H0.out.emptied_d rfl)
  have HST1 : Aside0 (StV (W.setCell ⟨g, 7, none⟩ (.slice Ad 0 cd)) vs cl R.st) := ⟨StV.keep (F := F) HS.out (fun k hk => Below.heap_setCell _ ⟨g, 7, none⟩ _ k (H0.out.clf k hk).2.1)⟩
  have HK1 := Aside0.mk ((KW.refl F W).set g 7 (.slice Ad 0 cd) H0.out.gf)
  go_enter Tryd.func13, Tryd.ntmps13
  go_upto_block 1 with fail
  have HLp : Aside0 (LpC F B g W { R with data := [] } s.data.toList 0 (W.setCell ⟨g, 7, none⟩ (.slice Ad 0 cd)) { R with data := [] } vs vt (.slice Ad 0 cd) cl) := ⟨⟨HR1.out.grow (fun k hk => .inl hk), HST1.out, HK1.out, rfl, Nat.le_refl _, Nat.le_refl _, H0.out.gf⟩⟩
  clear HR1 HST1 HK1 HS hc7 hf7 hc9 hc10 hc11
  go_wp2_with fail
  go_loopw [4] (fun v4 wi => ∃ (i : Nat) (R1 : Rm) (vs1 vt1 vd1 : Value) (cl1 : List Nat), v4 = .int .i64 (i : Int) ∧ i ≤ s.size ∧ Aside0 (LpC F B g W { R with data := [] } s.data.toList i wi R1 vs1 vt1 vd1 cl1)) (fun v4 _ => s.size - (intOf v4).toNat)
  case atStart => exact ⟨0, _, _, _, _, _, rfl, Nat.zero_le _, HLp⟩
  case round =>
    clear HLp
    obtain ⟨i, R1, vs1, vt1, vd1, cl1, rfl, hi, HP1⟩ := hrel
    have hc0 : wr.cell? ⟨g, 0, none⟩ = some vs1 := HP1.out.rd.cell 0
    have hc9 : wr.cell? ⟨g, 9, none⟩ = some (.int .i64 R1.fault) := HP1.out.rd.cell 9
    have hf0 := HP1.out.rd.fr 0
    have hf9 := HP1.out.rd.fr 9
    by_cases hgo : i < s.size ∧ isNone R1.st = false ∧ R1.fault = 0
    · obtain ⟨hlt, hn, hz⟩ := hgo
      have HN := Aside0.mk hn
      have HZ := Aside0.mk hz
      obtain ⟨x, hx⟩ : ∃ x : UInt8, s[i]'hlt = x := ⟨_, rfl⟩
      have HX : Aside0 (s.data.toList[i]? = some x) := ⟨by rw [← hx]; exact Lib.data_getElem? s i hlt⟩
      obtain ⟨K, caps, rfl, hcf, hK⟩ := step_any (Fnew F W) B g wr.drew R1 vs1 vt1 vd1 cl1 x HP1.out.drew.rd HP1.out.drew.st (fun e => by rw [e] at hn; cases hn) (by have := HP1.out.dl; omega) (by have := HP1.out.tl; have := HL.out; simp at *; omega)
      have HK := Aside0.mk hK
      rw [hz] at hc9
      have hwr : IntKind.i64.wrap ((i : Int) + 1) = (i : Int) + 1 := by rw [i64_w, IntWalk.wrap64_in _ (by omega)]
      have hq := neq_func K caps wr
      clear hn hz hK
      cases hn2 : isNone (stepR R1 x).1 with
      | true =>
        replace hn2 := Aside0.mk hn2
        go_upto_region 9 with fail
        clear hq
        go_region_with ((with_reducible refine HK.out.mono ?_); rintro e w1 ⟨v', vt', vd', cl', rfl, hs1, hr1, hk1⟩; obtain rfl := hs1.nil hn2.out; have hd0 : w1.cell? ⟨g, 0, none⟩ = some (.func (.func K) #[] caps) := hr1.cell 0; have hd9 : w1.cell? ⟨g, 9, none⟩ = some (.int .i64 (stepR R1 x).2.2.fault) := hr1.cell 9; have hg0 := hr1.fr 0; have hg9 := hr1.fr 9; have HN1 := Aside0.mk (HP1.out.drew.step HN.out HZ.out HX.out hs1 hr1 hk1); clear hs1 hr1 hk1 hc0 hc9 hf0 hf9)
        all_goals (clear hd0 hd9 hg0 hg9)
        all_goals (generalize (w1.setCell ⟨g, 0, none⟩ .nilFunc).setCell ⟨g, 9, none⟩ (.int .i64 (stepR R1 x).2.1) = w2 at HN1 ⊢)
        all_goals (go_wp2_with fail)
        all_goals (exact ⟨⟨i + 1, _, _, _, _, _, by go_num, by omega, HN1⟩, by simp [intOf]; omega⟩)
      | false =>
        replace hn2 := Aside0.mk hn2
        go_upto_region 9 with fail
        clear hq
        go_region_with ((with_reducible refine HK.out.mono ?_); rintro e w1 ⟨v', vt', vd', cl', rfl, hs1, hr1, hk1⟩; obtain ⟨K', caps', rfl⟩ := hs1.func hn2.out; have hd0 : w1.cell? ⟨g, 0, none⟩ = some (.func (.func K) #[] caps) := hr1.cell 0; have hd9 : w1.cell? ⟨g, 9, none⟩ = some (.int .i64 (stepR R1 x).2.2.fault) := hr1.cell 9; have hg0 := hr1.fr 0; have hg9 := hr1.fr 9; have HN1 := Aside0.mk (HP1.out.drew.step HN.out HZ.out HX.out hs1 hr1 hk1); clear hs1 hr1 hk1 hc0 hc9 hf0 hf9)
        all_goals (clear hd0 hd9 hg0 hg9)
        all_goals (generalize (w1.setCell ⟨g, 0, none⟩ (.func (.func K') #[] caps')).setCell ⟨g, 9, none⟩ (.int .i64 (stepR R1 x).2.1) = w2 at HN1 ⊢)
        all_goals (go_wp2_with fail)
        all_goals (exact ⟨⟨i + 1, _, _, _, _, _, by go_num, by omega, HN1⟩, by simp [intOf]; omega⟩)
    · have HF1 : Aside0 (feedL { R with data := [] } s.data.toList = (R1, i)) := ⟨HP1.out.fin (by
        rcases Nat.lt_or_ge i s.size with h1 | h1
        · refine .inr ?_
          cases hn : isNone R1.st with
          | true => exact .inl rfl
          | false => exact .inr (fun e => hgo ⟨h1, hn, e⟩)
        · exact .inl (by rw [← Lib.size_eq]; exact h1))⟩
      obtain ⟨A2, c2, rfl⟩ := Kd.R_slice HP1.out.rd.d
      cases hn : isNone R1.st with
      | true =>
        obtain rfl := HP1.out.st.nil hn
        have hq1 := neq_nil wr
        have HN := Aside0.mk hn
        clear hn
        by_cases hz : R1.fault = 0
        · have HOV : Aside0 ((isNone R1.st && decide (R1.fault = 0)) = true) := ⟨by rw [HN.out, decide_eq_true hz]; rfl⟩
          have ez : (R1.fault == 0) = true := beq_iff_eq.2 hz
          clear hz
          by_cases hlt : i < s.size
          · clear hgo
            go_upto_region 11 with fail
            clear hq1
            have hq2 := eql_nil wr
            have hc10 : wr.cell? ⟨g, 10, none⟩ = some (.bool R1.over) := HP1.out.rd.cell 10
            have hf10 := HP1.out.rd.fr 10
            go_upto_region 12 with fail
            have HR2 := Aside0.mk (RdC.put (R' := overR R1) HP1.out.rd 10 (.bool true) (by unfold cellsR overR; rw [HOV.out]; rfl) rfl rfl)
            have HK2 := Aside0.mk (HP1.out.kw.set g 10 (.bool true) HP1.out.gf)
            have HS2 : Aside0 (StV (wr.setCell ⟨g, 10, none⟩ (.bool true)) _ cl1 (overR R1).st) := ⟨StV.keep (F := F) HP1.out.st (fun k hk => Below.heap_setCell _ ⟨g, 10, none⟩ _ k (HP1.out.rd.clf k hk).2.1)⟩
            clear hc0 hc9 hf0 hf9 hc10 hf10 hq2 HP1
            generalize wr.setCell ⟨g, 10, none⟩ (.bool true) = W2 at HR2 HK2 HS2 ⊢
            have hc7 : W2.cell? ⟨g, 7, none⟩ = some (.slice A2 (ints R1.data).length c2) := HR2.out.cell 7
            have hc9 : W2.cell? ⟨g, 9, none⟩ = some (.int .i64 R1.fault) := HR2.out.cell 9
            have hc10 : W2.cell? ⟨g, 10, none⟩ = some (.bool true) := (HR2.out.cell 10).trans (by unfold cellsR overR; rw [HOV.out]; rfl)
            have hcv := data_conv HR2.out.drew
            go_region
            go_wp2_with fail
            (try simp only [Exit.inBlock, Exit.then])
            refine bodyPost_ret (results_tmp4 rfl _ _) rfl ?_
            rw [HP.out _ _ HF1.out]
            exact ⟨by rw [show (overR R1).over = true from HOV.out]; rfl, _, _, _, _, HR2.out.drew, StV.keep (F := F) HS2.out (fun _ _ => rfl), HK2.out.drew⟩
          · clear hgo
            go_upto_region 11 with fail
            clear hq1
            have hq2 := eql_nil wr
            have hc10 : wr.cell? ⟨g, 10, none⟩ = some (.bool R1.over) := HP1.out.rd.cell 10
            have hf10 := HP1.out.rd.fr 10
            go_upto_region 12 with fail
            have HR2 := Aside0.mk (RdC.put (R' := overR R1) HP1.out.rd 10 (.bool true) (by unfold cellsR overR; rw [HOV.out]; rfl) rfl rfl)
            have HK2 := Aside0.mk (HP1.out.kw.set g 10 (.bool true) HP1.out.gf)
            have HS2 : Aside0 (StV (wr.setCell ⟨g, 10, none⟩ (.bool true)) _ cl1 (overR R1).st) := ⟨StV.keep (F := F) HP1.out.st (fun k hk => Below.heap_setCell _ ⟨g, 10, none⟩ _ k (HP1.out.rd.clf k hk).2.1)⟩
            clear hc0 hc9 hf0 hf9 hc10 hf10 hq2 HP1
            generalize wr.setCell ⟨g, 10, none⟩ (.bool true) = W2 at HR2 HK2 HS2 ⊢
            have hc7 : W2.cell? ⟨g, 7, none⟩ = some (.slice A2 (ints R1.data).length c2) := HR2.out.cell 7
            have hc9 : W2.cell? ⟨g, 9, none⟩ = some (.int .i64 R1.fault) := HR2.out.cell 9
            have hc10 : W2.cell? ⟨g, 10, none⟩ = some (.bool true) := (HR2.out.cell 10).trans (by unfold cellsR overR; rw [HOV.out]; rfl)
            have hcv := data_conv HR2.out.drew
            go_region
            go_wp2_with fail
            (try simp only [Exit.inBlock, Exit.then])
            refine bodyPost_ret (results_tmp4 rfl _ _) rfl ?_
            rw [HP.out _ _ HF1.out]
            exact ⟨by rw [show (overR R1).over = true from HOV.out]; rfl, _, _, _, _, HR2.out.drew, StV.keep (F := F) HS2.out (fun _ _ => rfl), HK2.out.drew⟩
        · have HOV : Aside0 ((isNone R1.st && decide (R1.fault = 0)) = false) := ⟨by rw [HN.out, decide_eq_false hz]; rfl⟩
          have ez : (R1.fault == 0) = false := beq_eq_false_iff_ne.2 hz
          clear hz
          by_cases hlt : i < s.size
          · clear hgo
            go_upto_region 11 with fail
            clear hq1
            have hq2 := eql_nil wr
            have hc10 : wr.cell? ⟨g, 10, none⟩ = some (.bool R1.over) := HP1.out.rd.cell 10
            have hf10 := HP1.out.rd.fr 10
            go_upto_region 12 with fail
            have HR2 := Aside0.mk (RdC.put (R' := overR R1) HP1.out.rd 10 (.bool false) (by unfold cellsR overR; rw [HOV.out]; rfl) rfl rfl)
            have HK2 := Aside0.mk (HP1.out.kw.set g 10 (.bool false) HP1.out.gf)
            have HS2 : Aside0 (StV (wr.setCell ⟨g, 10, none⟩ (.bool false)) _ cl1 (overR R1).st) := ⟨StV.keep (F := F) HP1.out.st (fun k hk => Below.heap_setCell _ ⟨g, 10, none⟩ _ k (HP1.out.rd.clf k hk).2.1)⟩
            clear hc0 hc9 hf0 hf9 hc10 hf10 hq2 HP1
            generalize wr.setCell ⟨g, 10, none⟩ (.bool false) = W2 at HR2 HK2 HS2 ⊢
            have hc7 : W2.cell? ⟨g, 7, none⟩ = some (.slice A2 (ints R1.data).length c2) := HR2.out.cell 7
            have hc9 : W2.cell? ⟨g, 9, none⟩ = some (.int .i64 R1.fault) := HR2.out.cell 9
            have hc10 : W2.cell? ⟨g, 10, none⟩ = some (.bool false) := (HR2.out.cell 10).trans (by unfold cellsR overR; rw [HOV.out]; rfl)
            have hcv := data_conv HR2.out.drew
            go_region
            go_wp2_with fail
            (try simp only [Exit.inBlock, Exit.then])
            refine bodyPost_ret (results_tmp4 rfl _ _) rfl ?_
            rw [HP.out _ _ HF1.out]
            exact ⟨by rw [show (overR R1).over = false from HOV.out]; rfl, _, _, _, _, HR2.out.drew, StV.keep (F := F) HS2.out (fun _ _ => rfl), HK2.out.drew⟩
          · clear hgo
            go_upto_region 11 with fail
            clear hq1
            have hq2 := eql_nil wr
            have hc10 : wr.cell? ⟨g, 10, none⟩ = some (.bool R1.over) := HP1.out.rd.cell 10
            have hf10 := HP1.out.rd.fr 10
            go_upto_region 12 with fail
            have HR2 := Aside0.mk (RdC.put (R' := overR R1) HP1.out.rd 10 (.bool false) (by unfold cellsR overR; rw [HOV.out]; rfl) rfl rfl)
            have HK2 := Aside0.mk (HP1.out.kw.set g 10 (.bool false) HP1.out.gf)
            have HS2 : Aside0 (StV (wr.setCell ⟨g, 10, none⟩ (.bool false)) _ cl1 (overR R1).st) := ⟨StV.keep (F := F) HP1.out.st (fun k hk => Below.heap_setCell _ ⟨g, 10, none⟩ _ k (HP1.out.rd.clf k hk).2.1)⟩
            clear hc0 hc9 hf0 hf9 hc10 hf10 hq2 HP1
            generalize wr.setCell ⟨g, 10, none⟩ (.bool false) = W2 at HR2 HK2 HS2 ⊢
            have hc7 : W2.cell? ⟨g, 7, none⟩ = some (.slice A2 (ints R1.data).length c2) := HR2.out.cell 7
            have hc9 : W2.cell? ⟨g, 9, none⟩ = some (.int .i64 R1.fault) := HR2.out.cell 9
            have hc10 : W2.cell? ⟨g, 10, none⟩ = some (.bool false) := (HR2.out.cell 10).trans (by unfold cellsR overR; rw [HOV.out]; rfl)
            have hcv := data_conv HR2.out.drew
            go_region
            go_wp2_with fail
            (try simp only [Exit.inBlock, Exit.then])
            refine bodyPost_ret (results_tmp4 rfl _ _) rfl ?_
            rw [HP.out _ _ HF1.out]
            exact ⟨by rw [show (overR R1).over = false from HOV.out]; rfl, _, _, _, _, HR2.out.drew, StV.keep (F := F) HS2.out (fun _ _ => rfl), HK2.out.drew⟩
      | false =>
        obtain ⟨K, caps, rfl⟩ := HP1.out.st.func hn
        have HN := Aside0.mk hn
        have HOV : Aside0 ((isNone R1.st && decide (R1.fault = 0)) = false) := ⟨by rw [hn]; rfl⟩
        have hq1 := neq_func K caps wr
        by_cases hlt : i < s.size
        · have ez : (R1.fault == 0) = false := beq_eq_false_iff_ne.2 (fun e => hgo ⟨hlt, hn, e⟩)
          clear hgo hn
          go_upto_region 11 with fail
          clear hq1
          have hq2 := eql_func K caps wr
          have hc10 : wr.cell? ⟨g, 10, none⟩ = some (.bool R1.over) := HP1.out.rd.cell 10
          have hf10 := HP1.out.rd.fr 10
          go_upto_region 12 with fail
          have HR2 := Aside0.mk (RdC.put (R' := overR R1) HP1.out.rd 10 (.bool false) (by unfold cellsR overR; rw [HOV.out]; rfl) rfl rfl)
          have HK2 := Aside0.mk (HP1.out.kw.set g 10 (.bool false) HP1.out.gf)
          have HS2 : Aside0 (StV (wr.setCell ⟨g, 10, none⟩ (.bool false)) _ cl1 (overR R1).st) := ⟨StV.keep (F := F) HP1.out.st (fun k hk => Below.heap_setCell _ ⟨g, 10, none⟩ _ k (HP1.out.rd.clf k hk).2.1)⟩
          clear hc0 hc9 hf0 hf9 hc10 hf10 hq2 HP1
          generalize wr.setCell ⟨g, 10, none⟩ (.bool false) = W2 at HR2 HK2 HS2 ⊢
          have hc7 : W2.cell? ⟨g, 7, none⟩ = some (.slice A2 (ints R1.data).length c2) := HR2.out.cell 7
          have hc9 : W2.cell? ⟨g, 9, none⟩ = some (.int .i64 R1.fault) := HR2.out.cell 9
          have hc10 : W2.cell? ⟨g, 10, none⟩ = some (.bool false) := (HR2.out.cell 10).trans (by unfold cellsR overR; rw [HOV.out]; rfl)
          have hcv := data_conv HR2.out.drew
          go_region
          go_wp2_with fail
          (try simp only [Exit.inBlock, Exit.then])
          refine bodyPost_ret (results_tmp4 rfl _ _) rfl ?_
          rw [HP.out _ _ HF1.out]
          exact ⟨by rw [show (overR R1).over = false from HOV.out]; rfl, _, _, _, _, HR2.out.drew, StV.keep (F := F) HS2.out (fun _ _ => rfl), HK2.out.drew⟩
        · clear hgo hn
          go_upto_region 11 with fail
          clear hq1
          have hq2 := eql_func K caps wr
          have hc10 : wr.cell? ⟨g, 10, none⟩ = some (.bool R1.over) := HP1.out.rd.cell 10
          have hf10 := HP1.out.rd.fr 10
          go_upto_region 12 with fail
          have HR2 := Aside0.mk (RdC.put (R' := overR R1) HP1.out.rd 10 (.bool false) (by unfold cellsR overR; rw [HOV.out]; rfl) rfl rfl)
          have HK2 := Aside0.mk (HP1.out.kw.set g 10 (.bool false) HP1.out.gf)
          have HS2 : Aside0 (StV (wr.setCell ⟨g, 10, none⟩ (.bool false)) _ cl1 (overR R1).st) := ⟨StV.keep (F := F) HP1.out.st (fun k hk => Below.heap_setCell _ ⟨g, 10, none⟩ _ k (HP1.out.rd.clf k hk).2.1)⟩
          clear hc0 hc9 hf0 hf9 hc10 hf10 hq2 HP1
          generalize wr.setCell ⟨g, 10, none⟩ (.bool false) = W2 at HR2 HK2 HS2 ⊢
          have hc7 : W2.cell? ⟨g, 7, none⟩ = some (.slice A2 (ints R1.data).length c2) := HR2.out.cell 7
          have hc9 : W2.cell? ⟨g, 9, none⟩ = some (.int .i64 R1.fault) := HR2.out.cell 9
          have hc10 : W2.cell? ⟨g, 10, none⟩ = some (.bool false) := (HR2.out.cell 10).trans (by unfold cellsR overR; rw [HOV.out]; rfl)
          have hcv := data_conv HR2.out.drew
          go_region
          go_wp2_with fail
          (try simp only [Exit.inBlock, Exit.then])
          refine bodyPost_ret (results_tmp4 rfl _ _) rfl ?_
          rw [HP.out _ _ HF1.out]
          exact ⟨by rw [show (overR R1).over = false from HOV.out]; rfl, _, _, _, _, HR2.out.drew, StV.keep (F := F) HS2.out (fun _ _ => rfl), HK2.out.drew⟩
end Go.Proofs.YtllcfifeaacmiaaDoor.Pr
namespace Go.Proofs.YtllcfifeaacmiaaDoor.Pr
open Go.RowKit Go.Proofs.YtllcfifeaacmiaaDoorW.PrintWords Go.Proofs.YtllcfifeaacmiaaDoorW.PrintLast Go.Proofs.YtllcfifeaacmiaaDoorW.PrintMore
set_option linter.unusedVariables false
set_option linter.unusedSimpArgs false

/-! ### Feed's other ways; Total; New -/
theorem feed_nil (W : World) (s : ByteArray) :
    Calls Tryd.prog 13 #[.pointer none, .string s] W fun e W' => e = .returned (.tuple #[.int .i64 0, .string ⟨#[]⟩, .bool false, .int .i64 1]) ∧ W' = W := by
  go_enter Tryd.func13, Tryd.ntmps13
  go_wp2_with fail
  (try simp only [Exit.inBlock, Exit.then])
  refine bodyPost_ret (results_tmp4 rfl _ _) rfl ?_
  exact ⟨rfl, rfl⟩
theorem feed_fault (F : Nat → Prop) (B g : Nat) (W : World) (R : Rm) (vs vt vd : Value) (cl : List Nat) (s : ByteArray) (h : RdC F B g W R vs vt vd cl) (hm : R.made = true) (hf : R.fault ≠ 0) :
    Calls Tryd.prog 13 #[.pointer (some ⟨g, 0, none⟩), .string s] W fun e W' => e = .returned (.tuple #[.int .i64 0, .string ⟨#[]⟩, .bool false, .int .i64 R.fault]) ∧ W' = W.drew := by
  have hc11 : W.cell? ⟨g, 11, none⟩ = some (.bool true) := (h.cell 11).trans (by unfold cellsR; rw [hm]; rfl)
  have hc9 : W.cell? ⟨g, 9, none⟩ = some (.int .i64 R.fault) := h.cell 9
  have ez : (R.fault != 0) = true := bne_iff_ne.2 hf
  clear h hm hf
  go_enter Tryd.func13, Tryd.ntmps13
  go_wp2_with go_region
  (try simp only [Exit.inBlock, Exit.then])
  refine bodyPost_ret (results_tmp4 rfl _ _) rfl ?_
  exact ⟨rfl, rfl⟩
theorem feed_over (F : Nat → Prop) (B g : Nat) (W : World) (R : Rm) (vs vt vd : Value) (cl : List Nat) (s : ByteArray) (h : RdC F B g W R vs vt vd cl) (hm : R.made = true) (hf : R.fault = 0) (ho : R.over = true) :
    Calls Tryd.prog 13 #[.pointer (some ⟨g, 0, none⟩), .string s] W fun e W' => e = .returned (.tuple #[.int .i64 0, .string ⟨#[]⟩, .bool false, .int .i64 3]) ∧ W' = W := by
  have hc11 : W.cell? ⟨g, 11, none⟩ = some (.bool true) := (h.cell 11).trans (by unfold cellsR; rw [hm]; rfl)
  have hc9 : W.cell? ⟨g, 9, none⟩ = some (.int .i64 0) := (h.cell 9).trans (by unfold cellsR; rw [hf]; rfl)
  have hc10 : W.cell? ⟨g, 10, none⟩ = some (.bool true) := (h.cell 10).trans (by unfold cellsR; rw [ho]; rfl)
  clear h hm hf ho
  go_enter Tryd.func13, Tryd.ntmps13
  go_wp2_with fail
  (try simp only [Exit.inBlock, Exit.then])
  refine bodyPost_ret (results_tmp4 rfl _ _) rfl ?_
  exact ⟨rfl, rfl⟩
theorem total_nil (W : World) : Calls Tryd.prog 16 #[.pointer none] W fun e W' => e = .returned (.int .i64 0) ∧ W' = W := by
  go_enter Tryd.func16, Tryd.ntmps16
  go_wp2_with fail
  go_ret
  exact ⟨rfl, rfl⟩
theorem total_any (F : Nat → Prop) (B g : Nat) (W : World) (R : Rm) (vs vt vd : Value) (cl : List Nat) (h : RdC F B g W R vs vt vd cl) : Calls Tryd.prog 16 #[.pointer (some ⟨g, 0, none⟩)] W fun e W' => e = .returned (.int .i64 R.total) ∧ W' = W := by
  have hc8 : W.cell? ⟨g, 8, none⟩ = some (.int .i64 R.total) := h.cell 8
  clear h
  go_enter Tryd.func16, Tryd.ntmps16
  go_wp2_with fail
  go_ret
  exact ⟨rfl, rfl⟩
def newE (kind size : Int) : Int := if 2 < kind ∨ size < 0 ∨ (kind ≠ 1 ∧ size ≠ 0) then 2 else if 16777216 < size then 4 else 0
def newR (kind size : Int) : Rm := { st := if kind = 2 then .digit else if 0 < size then .plain else .none, left := size, sum := 0, digits := 0, line := 0, fields := 0, text := [], data := [], total := 0, fault := 0, over := false, made := true }
theorem new_bad (kind size : Int) (W : World) (h : newE kind size ≠ 0) : Calls Tryd.prog 12 #[.int .u8 kind, .int .i64 size] W fun e W' => e = .returned (.tuple #[.pointer none, .int .i64 (newE kind size)]) ∧ W' = W := by
  unfold newE at h ⊢
  by_cases h1 : 2 < kind
  · have e1 : decide (2 < kind) = true := decide_eq_true h1
    rw [if_pos (.inl h1)]
    clear h h1
    go_enter Tryd.func12, Tryd.ntmps12
    go_wp2_with fail
    go_ret2
    exact ⟨rfl, rfl⟩
  · have e1 : decide (2 < kind) = false := decide_eq_false h1
    by_cases h2 : size < 0
    · have e2 : decide (size < 0) = true := decide_eq_true h2
      rw [if_pos (.inr (.inl h2))]
      clear h h1 h2
      go_enter Tryd.func12, Tryd.ntmps12
      go_wp2_with fail
      go_ret2
      exact ⟨rfl, rfl⟩
    · have e2 : decide (size < 0) = false := decide_eq_false h2
      by_cases h3 : kind = 1
      · have e3 : (kind != 1) = false := by rw [h3]; rfl
        have hn : ¬ (2 < kind ∨ size < 0 ∨ (kind ≠ 1 ∧ size ≠ 0)) := by omega
        rw [if_neg hn] at h ⊢
        by_cases h5 : 16777216 < size
        · have e5 : decide (16777216 < size) = true := decide_eq_true h5
          rw [if_pos h5]
          clear h h1 h2 h3 h5 hn
          go_enter Tryd.func12, Tryd.ntmps12
          go_wp2_with fail
          go_ret2
          exact ⟨rfl, rfl⟩
        · rw [if_neg h5] at h; exact absurd rfl h
      · have e3 : (kind != 1) = true := bne_iff_ne.2 h3
        by_cases h4 : size = 0
        · rw [if_neg (by omega), if_neg (by omega)] at h; exact absurd rfl h
        · have e4 : (size != 0) = true := bne_iff_ne.2 h4
          rw [if_pos (.inr (.inr ⟨h3, h4⟩))]
          clear h h1 h2 h3 h4
          go_enter Tryd.func12, Tryd.ntmps12
          go_wp2_with fail
          go_ret2
          exact ⟨rfl, rfl⟩
theorem new_rd (W : World) (R : Rm) (vs : Value) (cs : Array Value) (hc : cs = cellsR R vs (.slice none 0 0) (.slice none 0 0)) (ht : R.text = []) (hd : R.data = []) : RdC (fun k => W.heap.size ≤ k) W.heap.size W.heap.size (W.alloc (.cells cs 47)) R vs (.slice none 0 0) (.slice none 0 0) [] := by
  subst hc
  refine ⟨Go.Deep.blk_alloc_new W _, Nat.le_refl _, Nat.le_refl _, fun k hk => (List.not_mem_nil hk).elim, ?_, ?_⟩
  · rw [ht]; exact Kd.R_nil _ _ _ _ _
  · rw [hd]; exact Kd.R_nil _ _ _ _ _
theorem new_any (kind size : Int) (W : World) (h : newE kind size = 0) : Calls Tryd.prog 12 #[.int .u8 kind, .int .i64 size] W fun e W' => e = .returned (.tuple #[.pointer (some ⟨W.heap.size, 0, none⟩), .int .i64 0]) ∧ Below W.heap.size W W' ∧ ∃ vs, RdC (fun k => W.heap.size ≤ k) W.heap.size W.heap.size W' (newR kind size) vs (.slice none 0 0) (.slice none 0 0) [] ∧ StV W' vs [] (newR kind size).st := by
  unfold newE at h
  have h1 : ¬ (2 < kind ∨ size < 0 ∨ (kind ≠ 1 ∧ size ≠ 0)) := fun e => by rw [if_pos e] at h; cases h
  rw [if_neg h1] at h
  have h2 : ¬ 16777216 < size := fun e => by rw [if_pos e] at h; cases h
  have e1 : decide (2 < kind) = false := decide_eq_false (by omega)
  have e2 : decide (size < 0) = false := decide_eq_false (by omega)
  have e5 : decide (16777216 < size) = false := decide_eq_false h2
  unfold newR
  by_cases h3 : kind = 2
  · obtain rfl := h3
    obtain rfl : size = 0 := by omega
    clear h h1 h2 e1 e2 e5
    go_enter Tryd.func12, Tryd.ntmps12
    go_wp2_with fail
    go_ret2
    refine ⟨rfl, below_alloc (Below.refl _ _) _, _, new_rd W _ _ _ rfl rfl rfl, ⟨rfl, rfl⟩⟩
  · have e3 : (kind == 2) = false := beq_eq_false_iff_ne.2 h3
    rw [if_neg h3]
    by_cases h4 : 0 < size
    · have e4 : decide (0 < size) = true := decide_eq_true h4
      have h6 : kind = 1 := by omega
      subst h6
      rw [if_pos h4]
      clear h h1 h2 h3 h4
      go_enter Tryd.func12, Tryd.ntmps12
      go_wp2_with fail
      go_ret2
      refine ⟨rfl, below_alloc (Below.refl _ _) _, _, new_rd W _ _ _ rfl rfl rfl, ⟨rfl, rfl⟩⟩
    · have h6 : size = 0 := by omega
      subst h6
      rw [if_neg h4]
      clear h h1 h2 h3 h4 e2 e5
      go_enter Tryd.func12, Tryd.ntmps12
      go_wp2_with fail
      all_goals go_ret2
      all_goals (exact ⟨rfl, below_alloc (Below.refl _ _) _, _, new_rd W _ _ _ rfl rfl rfl, ⟨rfl, rfl⟩⟩)
end Go.Proofs.YtllcfifeaacmiaaDoor.Pr
